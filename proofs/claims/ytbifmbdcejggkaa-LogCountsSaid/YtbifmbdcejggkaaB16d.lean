/- Plain laws of the functions tF this seat's, laid anew from another seat's text. No conditions but those that the theorems name. -/
import Derived.Test.YtbifmbdcejggkaaP16xD
import Derived.Test.YtbifmbdcejggkaaC16z
import Derived.Test.YtbifmbdcejggkaaB16b
import Derived.Test.YtbifmbdcejggkaaB16c
namespace Go.Ab
open Go
set_option linter.unusedVariables false
def uU:Option Int→List zH→Int
  | _,[]=>0
  | p,e::r=>if evS e≠0 then evS e else bif p.any (fun a=>decide (e.At<a)) then 11 else uU (some e.At) r
def zBY (l:List zH) (i:Nat):Option Int:=if i=0 then none else (l[i - 1]?).map (·.At)
theorem zJg {l:List zH} {i:Nat} {x:zH} {r:List zH} (h:l.drop i=x::r):zBY l (i+1)=some x.At:=by
  unfold zBY
  rw [if_neg (by omega),Nat.add_sub_cancel,zMr h];rfl
theorem zDE {l:List zH} (hl:l.length≤100000):∀ n i,(l.drop i).length<n→tN 281474976710656 l n (i:Nat)=some (toO (uU (zBY l i) (l.drop i))):=by
  intro n
  induction n with
  | zero=>intro i h;omega
  | succ n ih =>
    intro i hn
    show uY _ _ _ _=_
    unfold uY
    rcases hd:l.drop i with _ | ⟨x,r⟩
    · have:=v5 hd
      rw [yU (by omega)];rfl
    have hlt:=uR hd
    have hi:=ih (i+1) (by rw [hd] at hn;rw [wM hd];simp at hn;omega)
    rw [zJg hd,wM hd] at hi
    rw [y5 (by omega),cond_true,xL hd,Option.bind_some,zGG,Option.bind_some]
    simp only [uU]
    by_cases he:evS x≠0
    · rw [qA he,if_pos he,zN9 he];rfl
    rw [t8 (by omega),cond_false,if_neg he]
    by_cases h0:i=0
    · subst h0
      rw [yU (by omega),cond_false,Option.bind_some,cond_false,w6 (by omega),hi]
      simp [zBY]
    · rw [y5 (by omega),cond_true,zG2 (by omega) (by omega)]
      have hp:zBY l i=some (l[i - 1]'(by omega)).At:=by unfold zBY;rw [if_neg h0,List.getElem?_eq_getElem (by omega)];rfl
      rw [List.getElem?_eq_getElem (by omega),Option.bind_some,Option.bind_some,hp]
      simp only [Option.any_some]
      by_cases ht:x.At<(l[i - 1]'(by omega)).At
      · rw [y5 ht];rfl
      · rw [yU ht,cond_false,cond_false,w6 (by omega),hi]
theorem zEv {l:List zH} (hl:l.length≤100000):j8 281474976710656 l=some (uU none l):=by
  unfold j8
  rw [show tN 281474976710656 l 281474976710656 0=_ from zDE hl 281474976710656 0 (by simp;omega),Option.bind_some]
  simp only [List.drop_zero,zBY,if_true]
  unfold toO
  by_cases h:uU none l=0
  · rw [if_pos h,h]
  · rw [if_neg h]
theorem zLi:∀ {l:List zH} {p:Option Int},uU p l=0→∀ e∈l,evS e=0:=by
  intro l
  induction l with
  | nil=>intro p _ e he;cases he
  | cons x r ih =>
    intro p h e he
    simp only [uU] at h
    by_cases hx:evS x≠0
    · rw [if_pos hx] at h;exact absurd h hx
    rw [if_neg hx] at h
    cases hb:p.any (fun a=>decide (x.At<a))<;>rw [hb] at h
    case true=>cases h
    · rcases List.mem_cons.1 he with rfl | he
      · omega
      · exact ih h e he
def nN (n:Int):Prop:=n<0∨n>1000000000000000
instance decOutP:DecidablePred nN:=fun n=>inferInstanceAs (Decidable (_∨_))
def tM (p:zB):Prop:=nN p.Thread∨nN p.Serial∨nN p.Lost∨p.Lost>p.Serial∨p.Serial+p.Events.length>1000000000000000
instance decPackBad:DecidablePred tM:=fun n=>inferInstanceAs (Decidable (_∨_))
def uV (p:zB):Int :=
  if tM p then 2 else
  if p.Events.length=0 then 8 else if p.Events.length>1000 then 7 else uU none p.Events
theorem zFr {p:zB} (hl:p.Events.length≤100000):pK 281474976710656 p=some (uV p):=by
  unfold pK uV
  have hloop:=zFh (l:=[p.Thread,p.Serial,p.Lost]) (jE 281474976710656 p) (fun _ x=>if nN x then some (2:Int) else none) (fun n i hi=>by
    show w8 281474976710656 p _ _=_
    unfold w8
    simp only [List.length_cons,List.length_nil] at hi
    rw [yU (by omega)];rfl) (fun n i x r hd hlt=>by
    simp only [List.length_cons,List.length_nil] at hlt
    refine ⟨fun b hb=>?_,fun hb=>?_⟩
    · show w8 281474976710656 p _ _=_
      unfold w8
      by_cases ho:nN x
      · rw [if_pos ho] at hb;cases hb
        rw [y5 (by omega),cond_true,xL hd,Option.bind_some,zNR ho];rfl
      · rw [if_neg ho] at hb;cases hb
    · show w8 281474976710656 p _ _=_
      unfold w8
      by_cases ho:nN x
      · rw [if_pos ho] at hb;cases hb
      · rw [y5 (by omega),cond_true,xL hd,Option.bind_some,zOq ho,cond_false,w6 (by omega)]) (n:=281474976710656) (by show 3<281474976710656;omega)
  rw [hloop]
  simp only [xV]
  by_cases h1:nN p.Thread
  · rw [if_pos h1,if_pos (show tM p from (.inl h1))];rfl
  rw [if_neg h1]
  by_cases h2:nN p.Serial
  · simp only [if_pos h2];rw [if_pos (show tM p from (.inr (.inl h2)))];rfl
  simp only [if_neg h2]
  by_cases h3:nN p.Lost
  · simp only [if_pos h3];rw [if_pos (show tM p from (.inr (.inr (.inl h3))))];rfl
  simp only [if_neg h3,Option.bind_some]
  unfold nN at h1 h2 h3
  by_cases h4:p.Lost>p.Serial
  · rw [y5 h4,if_pos (show tM p from (.inr (.inr (.inr (.inl h4)))))];rfl
  rw [yU h4,cond_false,Option.bind_some,w64 (by omega) (by omega)]
  by_cases h5:p.Serial+p.Events.length>1000000000000000
  · rw [y5 h5,if_pos (show tM p from (.inr (.inr (.inr (.inr h5)))))];rfl
  rw [yU h5,cond_false,if_neg (show ¬ tM p by unfold tM nN;omega)]
  by_cases h6:p.Events.length=0
  · rw [v6 (by omega),if_pos h6];rfl
  rw [t9 (by omega),cond_false,if_neg h6]
  by_cases h7:p.Events.length>1000
  · rw [y5 (by omega),if_pos h7];rfl
  rw [yU (by omega),cond_false,if_neg h7,zEv hl,Option.bind_some]
theorem vK {p:zB} (h:uV p=0):0≤p.Thread∧p.Thread≤1000000000000000∧0≤p.Serial∧0≤p.Lost∧p.Lost≤p.Serial∧p.Serial+p.Events.length≤1000000000000000∧0<p.Events.length∧p.Events.length≤1000∧uU none p.Events=0:=by
  unfold uV at h
  by_cases h1:tM p
  · rw [if_pos h1] at h;cases h
  rw [if_neg h1] at h
  unfold tM nN at h1
  by_cases h2:p.Events.length=0
  · rw [if_pos h2] at h;cases h
  rw [if_neg h2] at h
  by_cases h3:p.Events.length>1000
  · rw [if_pos h3] at h;cases h
  rw [if_neg h3] at h
  exact ⟨by omega,by omega,by omega,by omega,by omega,by omega,by omega,by omega,h⟩
theorem zNs (a b:zB) (h1:a.Thread=b.Thread) (h2:a.Serial=b.Serial) (h3:a.Lost=b.Lost):decide (a=b)=decide (a.Events=b.Events):=by
  by_cases h:a.Events=b.Events
  · rw [y5 h,y5]
    obtain ⟨_,_,_,_⟩:=a;obtain ⟨_,_,_,_⟩:=b;simp_all
  · rw [yU h,yU]
    intro e;exact h (by rw [e])
theorem zGA {a b:zB} (hl:a.Events.length≤140737488355328) (hs:∀ e∈a.Events,e.Stack.length≤140737488355328):nW 281474976710656 a b=some (decide (a=b)):=by
  unfold nW
  by_cases h1:a.Thread=b.Thread
  case neg=>rw [t9 h1,yU (fun e=>h1 (by rw [e]))];rfl
  by_cases h2:a.Serial=b.Serial
  case neg=>rw [v6 h1,t9 h2,yU (fun e=>h2 (by rw [e]))];rfl
  by_cases h3:a.Lost=b.Lost
  case neg=>rw [v6 h1,v6 h2,t9 h3,yU (fun e=>h3 (by rw [e]))];rfl
  rw [v6 h1,v6 h2,v6 h3,zNs a b h1 h2 h3]
  simp only [cond_true]
  unfold yZ
  by_cases h4:a.Events.length=b.Events.length
  case neg=>rw [qA (a:=(a.Events.length:Int)) (by omega),yU (fun e=>h4 (by rw [e]))];rfl
  rw [t8 (a:=(a.Events.length:Int)) (by omega),cond_false]
  rw [pQ (a:=a.Events) (b:=b.Events) (yK 281474976710656 a.Events b.Events) h4 hl (fun n i hi=>by
    show z7 _ _ _ _ _=_
    unfold z7
    simp (disch:=omega) only [yU,cond_false]) (fun n i x y r r2 hd hd2 hlt=>by
    show z7 _ _ _ _ _=_
    unfold z7
    rw [y5 (by omega),cond_true,xL hd,Option.bind_some,xL hd2,Option.bind_some,zHt (hs x (qH hd)),Option.bind_some,w6 (by omega)]
    by_cases h:x=y
    · rw [y5 h,if_pos h];rfl
    · rw [yU h,if_neg h];rfl),Option.bind_some]
  by_cases h:a.Events=b.Events
  · rw [if_pos h,y5 h];rfl
  · rw [if_neg h,yU h];rfl
def zNC (a b:zB):Prop:=uV a≠0∨uV b≠0∨a.Thread≠b.Thread∨b.Lost≠0∨b.Serial≠a.Serial+a.Events.length
instance decJoinBad {a b:zB}:Decidable (zNC a b):=inferInstanceAs (Decidable (_∨_))
def zBe (l:List zH):Int:=(l.head?.map (·.At)).getD 0
def t7 (l:List zH):Int:=(l.getLast?.map (·.At)).getD 0
theorem zL6 {l:List zH} (h:0<l.length):∃ x,xW l 0=some x∧x.At=zBe l:=by
  cases l with
  | nil=>simp at h
  | cons x r=>exact ⟨x,rfl,rfl⟩
theorem zJa {l:List zH} (h:0<l.length) (h1:l.length≤100000):∃ x,xW l (zJ ((l.length:Int) - 1))=some x∧x.At=t7 l:=by
  have hne:l≠[]:=by intro e;rw [e] at h;simp at h
  rw [zLL (by omega) hne]
  unfold t7
  rw [List.getLast?_eq_some_getLast hne]
  exact ⟨_,rfl,rfl⟩
def zMO (p:zB) (n:Int):Prop:=uV p≠0∨n<1∨n≥p.Events.length
instance decSplitBad {p:zB} {n:Int}:Decidable (zMO p n):=inferInstanceAs (Decidable (_∨_))
theorem zL1 {α:Type} {l:List α} {n:Int} (h0:0≤n):sub l n (l.length:Int)=l.drop n.toNat:=by
  unfold sub;rw [Int.toNat_natCast,List.take_length]
theorem zLM {α:Type} {l:List α} {n:Int} (h0:0≤n):sub l 0 n=l.take n.toNat:=by
  unfold sub;simp
end Go.Ab
