/- Plain laws of the functions tG this seat's, laid anew from another seat's text. No conditions but those that the theorems name. -/
import Derived.Test.YtbifmbdcejggkaaP16xD
import Derived.Test.YtbifmbdcejggkaaC16z
import Derived.Test.YtbifmbdcejggkaaB16b
import Derived.Test.YtbifmbdcejggkaaB16c
namespace Go.Ab
open Go
set_option linter.unusedVariables false
def uV:Option Int→List zI→Int
  | _,[]=>0
  | p,e::r=>if evS e≠0 then evS e else bif p.any (fun a=>decide (e.At<a)) then 11 else uV (some e.At) r
def zBG (l:List zI) (i:Nat):Option Int:=if i=0 then none else (l[i - 1]?).map (·.At)
theorem zIP {l:List zI} {i:Nat} {x:zI} {r:List zI} (h:l.drop i=x::r):zBG l (i+1)=some x.At:=by
  unfold zBG
  rw [if_neg (by omega),Nat.add_sub_cancel,zLU h];rfl
theorem zDj {l:List zI} (hl:l.length≤100000):∀ n i,(l.drop i).length<n→tK 281474976710656 l n (i:Nat)=some (toO (uV (zBG l i) (l.drop i))):=by
  intro n
  induction n with
  | zero=>intro i h;omega
  | succ n ih =>
    intro i hn
    show u0 _ _ _ _=_
    unfold u0
    rcases hd:l.drop i with _ | ⟨x,r⟩
    · have:=qB hd
      rw [y1 (by omega)];rfl
    have hlt:=qW hd
    have hi:=ih (i+1) (by rw [hd] at hn;rw [vY hd];simp at hn;omega)
    rw [zIP hd,vY hd] at hi
    rw [y7 (by omega),cond_true,wK hd,Option.bind_some,zGa,Option.bind_some]
    simp only [uV]
    by_cases he:evS x≠0
    · rw [jJ he,if_pos he,zNs he];rfl
    rw [kB (by omega),cond_false,if_neg he]
    by_cases h0:i=0
    · subst h0
      rw [y1 (by omega),cond_false,Option.bind_some,cond_false,uM (by omega),hi]
      simp [zBG]
    · rw [y7 (by omega),cond_true,zGQ (by omega) (by omega)]
      have hp:zBG l i=some (l[i - 1]'(by omega)).At:=by unfold zBG;rw [if_neg h0,List.getElem?_eq_getElem (by omega)];rfl
      rw [List.getElem?_eq_getElem (by omega),Option.bind_some,Option.bind_some,hp]
      simp only [Option.any_some]
      by_cases ht:x.At<(l[i - 1]'(by omega)).At
      · rw [y7 ht];rfl
      · rw [y1 ht,cond_false,cond_false,uM (by omega),hi]
theorem zD5 {l:List zI} (hl:l.length≤100000):jS 281474976710656 l=some (uV none l):=by
  unfold jS
  rw [show tK 281474976710656 l 281474976710656 0=_ from zDj hl 281474976710656 0 (by simp;omega),Option.bind_some]
  simp only [List.drop_zero,zBG,if_true]
  unfold toO
  by_cases h:uV none l=0
  · rw [if_pos h,h]
  · rw [if_neg h]
theorem zKw:∀ {l:List zI} {p:Option Int},uV p l=0→∀ e∈l,evS e=0:=by
  intro l
  induction l with
  | nil=>intro p _ e he;cases he
  | cons x r ih =>
    intro p h e he
    simp only [uV] at h
    by_cases hx:evS x≠0
    · rw [if_pos hx] at h;exact absurd h hx
    rw [if_neg hx] at h
    cases hb:p.any (fun a=>decide (x.At<a))<;>rw [hb] at h
    case true=>cases h
    · rcases List.mem_cons.1 he with rfl | he
      · omega
      · exact ih h e he
def pW (n:Int):Prop:=n<0∨n>1000000000000000
instance decOutP:DecidablePred pW:=fun n=>inferInstanceAs (Decidable (_∨_))
def tL (p:zB):Prop:=pW p.Thread∨pW p.Serial∨pW p.Lost∨p.Lost>p.Serial∨p.Serial+p.Events.length>1000000000000000
instance decPackBad:DecidablePred tL:=fun n=>inferInstanceAs (Decidable (_∨_))
def u5 (p:zB):Int :=
  if tL p then 2 else
  if p.Events.length=0 then 8 else if p.Events.length>1000 then 7 else uV none p.Events
theorem zFJ {p:zB} (hl:p.Events.length≤100000):kV 281474976710656 p=some (u5 p):=by
  unfold kV u5
  have hloop:=zEv (l:=[p.Thread,p.Serial,p.Lost]) (q7 281474976710656 p) (fun _ x=>if pW x then some (2:Int) else none) (fun n i hi=>by
    show vG 281474976710656 p _ _=_
    unfold vG
    simp only [List.length_cons,List.length_nil] at hi
    rw [y1 (by omega)];rfl) (fun n i x r hd hlt=>by
    simp only [List.length_cons,List.length_nil] at hlt
    refine ⟨fun b hb=>?_,fun hb=>?_⟩
    · show vG 281474976710656 p _ _=_
      unfold vG
      by_cases ho:pW x
      · rw [if_pos ho] at hb;cases hb
        rw [y7 (by omega),cond_true,wK hd,Option.bind_some,zM6 ho];rfl
      · rw [if_neg ho] at hb;cases hb
    · show vG 281474976710656 p _ _=_
      unfold vG
      by_cases ho:pW x
      · rw [if_pos ho] at hb;cases hb
      · rw [y7 (by omega),cond_true,wK hd,Option.bind_some,zNF ho,cond_false,uM (by omega)]) (n:=281474976710656) (by show 3<281474976710656;omega)
  rw [hloop]
  simp only [xW]
  by_cases h1:pW p.Thread
  · rw [if_pos h1,if_pos (show tL p from (.inl h1))];rfl
  rw [if_neg h1]
  by_cases h2:pW p.Serial
  · simp only [if_pos h2];rw [if_pos (show tL p from (.inr (.inl h2)))];rfl
  simp only [if_neg h2]
  by_cases h3:pW p.Lost
  · simp only [if_pos h3];rw [if_pos (show tL p from (.inr (.inr (.inl h3))))];rfl
  simp only [if_neg h3,Option.bind_some]
  unfold pW at h1 h2 h3
  by_cases h4:p.Lost>p.Serial
  · rw [y7 h4,if_pos (show tL p from (.inr (.inr (.inr (.inl h4)))))];rfl
  rw [y1 h4,cond_false,Option.bind_some,w64 (by omega) (by omega)]
  by_cases h5:p.Serial+p.Events.length>1000000000000000
  · rw [y7 h5,if_pos (show tL p from (.inr (.inr (.inr (.inr h5)))))];rfl
  rw [y1 h5,cond_false,if_neg (show ¬ tL p by unfold tL pW;omega)]
  by_cases h6:p.Events.length=0
  · rw [uX (by omega),if_pos h6];rfl
  rw [kQ (by omega),cond_false,if_neg h6]
  by_cases h7:p.Events.length>1000
  · rw [y7 (by omega),if_pos h7];rfl
  rw [y1 (by omega),cond_false,if_neg h7,zD5 hl,Option.bind_some]
theorem tU {p:zB} (h:u5 p=0):0≤p.Thread∧p.Thread≤1000000000000000∧0≤p.Serial∧0≤p.Lost∧p.Lost≤p.Serial∧p.Serial+p.Events.length≤1000000000000000∧0<p.Events.length∧p.Events.length≤1000∧uV none p.Events=0:=by
  unfold u5 at h
  by_cases h1:tL p
  · rw [if_pos h1] at h;cases h
  rw [if_neg h1] at h
  unfold tL pW at h1
  by_cases h2:p.Events.length=0
  · rw [if_pos h2] at h;cases h
  rw [if_neg h2] at h
  by_cases h3:p.Events.length>1000
  · rw [if_pos h3] at h;cases h
  rw [if_neg h3] at h
  exact ⟨by omega,by omega,by omega,by omega,by omega,by omega,by omega,by omega,h⟩
theorem zMG (a b:zB) (h1:a.Thread=b.Thread) (h2:a.Serial=b.Serial) (h3:a.Lost=b.Lost):decide (a=b)=decide (a.Events=b.Events):=by
  by_cases h:a.Events=b.Events
  · rw [y7 h,y7]
    obtain ⟨_,_,_,_⟩:=a;obtain ⟨_,_,_,_⟩:=b;simp_all
  · rw [y1 h,y1]
    intro e;exact h (by rw [e])
theorem zF2 {a b:zB} (hl:a.Events.length≤140737488355328) (hs:∀ e∈a.Events,e.Stack.length≤140737488355328):nC 281474976710656 a b=some (decide (a=b)):=by
  unfold nC
  by_cases h1:a.Thread=b.Thread
  case neg=>rw [kQ h1,y1 (fun e=>h1 (by rw [e]))];rfl
  by_cases h2:a.Serial=b.Serial
  case neg=>rw [uX h1,kQ h2,y1 (fun e=>h2 (by rw [e]))];rfl
  by_cases h3:a.Lost=b.Lost
  case neg=>rw [uX h1,uX h2,kQ h3,y1 (fun e=>h3 (by rw [e]))];rfl
  rw [uX h1,uX h2,uX h3,zMG a b h1 h2 h3]
  simp only [cond_true]
  unfold y0
  by_cases h4:a.Events.length=b.Events.length
  case neg=>rw [jJ (a:=(a.Events.length:Int)) (by omega),y1 (fun e=>h4 (by rw [e]))];rfl
  rw [kB (a:=(a.Events.length:Int)) (by omega),cond_false]
  rw [pN (a:=a.Events) (b:=b.Events) (yL 281474976710656 a.Events b.Events) h4 hl (fun n i hi=>by
    show z5 _ _ _ _ _=_
    unfold z5
    simp (disch:=omega) only [y1,cond_false]) (fun n i x y r r2 hd hd2 hlt=>by
    show z5 _ _ _ _ _=_
    unfold z5
    rw [y7 (by omega),cond_true,wK hd,Option.bind_some,wK hd2,Option.bind_some,zHd (hs x (zCT hd)),Option.bind_some,uM (by omega)]
    by_cases h:x=y
    · rw [y7 h,if_pos h];rfl
    · rw [y1 h,if_neg h];rfl),Option.bind_some]
  by_cases h:a.Events=b.Events
  · rw [if_pos h,y7 h];rfl
  · rw [if_neg h,y1 h];rfl
def zMw (a b:zB):Prop:=u5 a≠0∨u5 b≠0∨a.Thread≠b.Thread∨b.Lost≠0∨b.Serial≠a.Serial+a.Events.length
instance decJoinBad {a b:zB}:Decidable (zMw a b):=inferInstanceAs (Decidable (_∨_))
def zA1 (l:List zI):Int:=(l.head?.map (·.At)).getD 0
def t6 (l:List zI):Int:=(l.getLast?.map (·.At)).getD 0
theorem zMc {l:List zI} (h:0<l.length):∃ x,wB l 0=some x∧x.At=zA1 l:=by
  cases l with
  | nil=>simp at h
  | cons x r=>exact ⟨x,rfl,rfl⟩
theorem zLs {l:List zI} (h:0<l.length) (h1:l.length≤100000):∃ x,wB l (zK ((l.length:Int) - 1))=some x∧x.At=t6 l:=by
  have hne:l≠[]:=by intro e;rw [e] at h;simp at h
  rw [zKF (by omega) hne]
  unfold t6
  rw [List.getLast?_eq_some_getLast hne]
  exact ⟨_,rfl,rfl⟩
def zLz (p:zB) (n:Int):Prop:=u5 p≠0∨n<1∨n≥p.Events.length
instance decSplitBad {p:zB} {n:Int}:Decidable (zLz p n):=inferInstanceAs (Decidable (_∨_))
theorem zGR {α:Type} {l:List α} {n:Int} (h0:0≤n):sub l n (l.length:Int)=l.drop n.toNat:=by
  unfold sub;rw [Int.toNat_natCast,List.take_length]
theorem zGL {α:Type} {l:List α} {n:Int} (h0:0≤n):sub l 0 n=l.take n.toNat:=by
  unfold sub;simp
end Go.Ab
