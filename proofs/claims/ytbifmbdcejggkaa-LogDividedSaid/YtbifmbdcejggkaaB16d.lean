/- Plain laws of the functions u2 this seat's, laid anew from another seat's text. No conditions but those that the theorems name. -/
import Derived.Test.YtbifmbdcejggkaaP16xD
import Derived.Test.YtbifmbdcejggkaaC16z
import Derived.Test.YtbifmbdcejggkaaB16b
import Derived.Test.YtbifmbdcejggkaaB16c
namespace Go.Ab
open Go
set_option linter.unusedVariables false
def t0:Option Int→List zH→Int
  | _,[]=>0
  | p,e::r=>if evS e≠0 then evS e else bif p.any (fun a=>decide (e.At<a)) then 11 else t0 (some e.At) r
def zBu (l:List zH) (i:Nat):Option Int:=if i=0 then none else (l[i - 1]?).map (·.At)
theorem zIw {l:List zH} {i:Nat} {x:zH} {r:List zH} (h:l.drop i=x::r):zBu l (i+1)=some x.At:=by
  unfold zBu
  rw [if_neg (by omega),Nat.add_sub_cancel,zK5 h];rfl
theorem zC7 {l:List zH} (hl:l.length≤100000):∀ n i,(l.drop i).length<n→u6 281474976710656 l n (i:Nat)=some (toO (t0 (zBu l i) (l.drop i))):=by
  intro n
  induction n with
  | zero=>intro i h;omega
  | succ n ih =>
    intro i hn
    show uM _ _ _ _=_
    unfold uM
    rcases hd:l.drop i with _ | ⟨x,r⟩
    · have:=tC hd
      rw [y0 (by omega)];rfl
    have hlt:=t9 hd
    have hi:=ih (i+1) (by rw [hd] at hn;rw [vD hd];simp at hn;omega)
    rw [zIw hd,vD hd] at hi
    rw [y1 (by omega),cond_true,x3 hd,Option.bind_some,zFF,Option.bind_some]
    simp only [t0]
    by_cases he:evS x≠0
    · rw [qR he,if_pos he,zM8 he];rfl
    rw [q8 (by omega),cond_false,if_neg he]
    by_cases h0:i=0
    · subst h0
      rw [y0 (by omega),cond_false,Option.bind_some,cond_false,v5 (by omega),hi]
      simp [zBu]
    · rw [y1 (by omega),cond_true,zGo (by omega) (by omega)]
      have hp:zBu l i=some (l[i - 1]'(by omega)).At:=by unfold zBu;rw [if_neg h0,List.getElem?_eq_getElem (by omega)];rfl
      rw [List.getElem?_eq_getElem (by omega),Option.bind_some,Option.bind_some,hp]
      simp only [Option.any_some]
      by_cases ht:x.At<(l[i - 1]'(by omega)).At
      · rw [y1 ht];rfl
      · rw [y0 ht,cond_false,cond_false,v5 (by omega),hi]
theorem zDV {l:List zH} (hl:l.length≤100000):jM 281474976710656 l=some (t0 none l):=by
  unfold jM
  rw [show u6 281474976710656 l 281474976710656 0=_ from zC7 hl 281474976710656 0 (by simp;omega),Option.bind_some]
  simp only [List.drop_zero,zBu,if_true]
  unfold toO
  by_cases h:t0 none l=0
  · rw [if_pos h,h]
  · rw [if_neg h]
theorem zJ5:∀ {l:List zH} {p:Option Int},t0 p l=0→∀ e∈l,evS e=0:=by
  intro l
  induction l with
  | nil=>intro p _ e he;cases he
  | cons x r ih =>
    intro p h e he
    simp only [t0] at h
    by_cases hx:evS x≠0
    · rw [if_pos hx] at h;exact absurd h hx
    rw [if_neg hx] at h
    cases hb:p.any (fun a=>decide (x.At<a))<;>rw [hb] at h
    case true=>cases h
    · rcases List.mem_cons.1 he with rfl | he
      · omega
      · exact ih h e he
def nS (n:Int):Prop:=n<0∨n>1000000000000000
instance decOutP:DecidablePred nS:=fun n=>inferInstanceAs (Decidable (_∨_))
def tR (p:zB):Prop:=nS p.Thread∨nS p.Serial∨nS p.Lost∨p.Lost>p.Serial∨p.Serial+p.Events.length>1000000000000000
instance decPackBad:DecidablePred tR:=fun n=>inferInstanceAs (Decidable (_∨_))
def vW (p:zB):Int :=
  if tR p then 2 else
  if p.Events.length=0 then 8 else if p.Events.length>1000 then 7 else t0 none p.Events
theorem zBF {p:zB} (hl:p.Events.length≤100000):jD 281474976710656 p=some (vW p):=by
  unfold jD vW
  have hloop:=zEj (l:=[p.Thread,p.Serial,p.Lost]) (qQ 281474976710656 p) (fun _ x=>if nS x then some (2:Int) else none) (fun n i hi=>by
    show wY 281474976710656 p _ _=_
    unfold wY
    simp only [List.length_cons,List.length_nil] at hi
    rw [y0 (by omega)];rfl) (fun n i x r hd hlt=>by
    simp only [List.length_cons,List.length_nil] at hlt
    refine ⟨fun b hb=>?_,fun hb=>?_⟩
    · show wY 281474976710656 p _ _=_
      unfold wY
      by_cases ho:nS x
      · rw [if_pos ho] at hb;cases hb
        rw [y1 (by omega),cond_true,x3 hd,Option.bind_some,zMP ho];rfl
      · rw [if_neg ho] at hb;cases hb
    · show wY 281474976710656 p _ _=_
      unfold wY
      by_cases ho:nS x
      · rw [if_pos ho] at hb;cases hb
      · rw [y1 (by omega),cond_true,x3 hd,Option.bind_some,zNj ho,cond_false,v5 (by omega)]) (n:=281474976710656) (by show 3<281474976710656;omega)
  rw [hloop]
  simp only [x5]
  by_cases h1:nS p.Thread
  · rw [if_pos h1,if_pos (show tR p from (.inl h1))];rfl
  rw [if_neg h1]
  by_cases h2:nS p.Serial
  · simp only [if_pos h2];rw [if_pos (show tR p from (.inr (.inl h2)))];rfl
  simp only [if_neg h2]
  by_cases h3:nS p.Lost
  · simp only [if_pos h3];rw [if_pos (show tR p from (.inr (.inr (.inl h3))))];rfl
  simp only [if_neg h3,Option.bind_some]
  unfold nS at h1 h2 h3
  by_cases h4:p.Lost>p.Serial
  · rw [y1 h4,if_pos (show tR p from (.inr (.inr (.inr (.inl h4)))))];rfl
  rw [y0 h4,cond_false,Option.bind_some,w64 (by omega) (by omega)]
  by_cases h5:p.Serial+p.Events.length>1000000000000000
  · rw [y1 h5,if_pos (show tR p from (.inr (.inr (.inr (.inr h5)))))];rfl
  rw [y0 h5,cond_false,if_neg (show ¬ tR p by unfold tR nS;omega)]
  by_cases h6:p.Events.length=0
  · rw [uF (by omega),if_pos h6];rfl
  rw [jW (by omega),cond_false,if_neg h6]
  by_cases h7:p.Events.length>1000
  · rw [y1 (by omega),if_pos h7];rfl
  rw [y0 (by omega),cond_false,if_neg h7,zDV hl,Option.bind_some]
theorem tG {p:zB} (h:vW p=0):0≤p.Thread∧p.Thread≤1000000000000000∧0≤p.Serial∧0≤p.Lost∧p.Lost≤p.Serial∧p.Serial+p.Events.length≤1000000000000000∧0<p.Events.length∧p.Events.length≤1000∧t0 none p.Events=0:=by
  unfold vW at h
  by_cases h1:tR p
  · rw [if_pos h1] at h;cases h
  rw [if_neg h1] at h
  unfold tR nS at h1
  by_cases h2:p.Events.length=0
  · rw [if_pos h2] at h;cases h
  rw [if_neg h2] at h
  by_cases h3:p.Events.length>1000
  · rw [if_pos h3] at h;cases h
  rw [if_neg h3] at h
  exact ⟨by omega,by omega,by omega,by omega,by omega,by omega,by omega,by omega,h⟩
theorem zMB (a b:zB) (h1:a.Thread=b.Thread) (h2:a.Serial=b.Serial) (h3:a.Lost=b.Lost):decide (a=b)=decide (a.Events=b.Events):=by
  by_cases h:a.Events=b.Events
  · rw [y1 h,y1]
    obtain ⟨_,_,_,_⟩:=a;obtain ⟨_,_,_,_⟩:=b;simp_all
  · rw [y0 h,y0]
    intro e;exact h (by rw [e])
theorem zFA {a b:zB} (hl:a.Events.length≤140737488355328) (hs:∀ e∈a.Events,e.Stack.length≤140737488355328):pI 281474976710656 a b=some (decide (a=b)):=by
  unfold pI
  by_cases h1:a.Thread=b.Thread
  case neg=>rw [jW h1,y0 (fun e=>h1 (by rw [e]))];rfl
  by_cases h2:a.Serial=b.Serial
  case neg=>rw [uF h1,jW h2,y0 (fun e=>h2 (by rw [e]))];rfl
  by_cases h3:a.Lost=b.Lost
  case neg=>rw [uF h1,uF h2,jW h3,y0 (fun e=>h3 (by rw [e]))];rfl
  rw [uF h1,uF h2,uF h3,zMB a b h1 h2 h3]
  simp only [cond_true]
  unfold yS
  by_cases h4:a.Events.length=b.Events.length
  case neg=>rw [qR (a:=(a.Events.length:Int)) (by omega),y0 (fun e=>h4 (by rw [e]))];rfl
  rw [q8 (a:=(a.Events.length:Int)) (by omega),cond_false]
  rw [k8 (a:=a.Events) (b:=b.Events) (yE 281474976710656 a.Events b.Events) h4 hl (fun n i hi=>by
    show z5 _ _ _ _ _=_
    unfold z5
    simp (disch:=omega) only [y0,cond_false]) (fun n i x y r r2 hd hd2 hlt=>by
    show z5 _ _ _ _ _=_
    unfold z5
    rw [y1 (by omega),cond_true,x3 hd,Option.bind_some,x3 hd2,Option.bind_some,zGI (hs x (zBi hd)),Option.bind_some,v5 (by omega)]
    by_cases h:x=y
    · rw [y1 h,if_pos h];rfl
    · rw [y0 h,if_neg h];rfl),Option.bind_some]
  by_cases h:a.Events=b.Events
  · rw [if_pos h,y1 h];rfl
  · rw [if_neg h,y0 h];rfl
def pk0:zB:=⟨0,0,0,[]⟩
def zMt (a b:zB):Prop:=vW a≠0∨vW b≠0∨a.Thread≠b.Thread∨b.Lost≠0∨b.Serial≠a.Serial+a.Events.length
instance decJoinBad {a b:zB}:Decidable (zMt a b):=inferInstanceAs (Decidable (_∨_))
def kG (l:List zH):Int:=(l.head?.map (·.At)).getD 0
def qK (l:List zH):Int:=(l.getLast?.map (·.At)).getD 0
theorem zLv {l:List zH} (h:0<l.length):∃ x,wD l 0=some x∧x.At=kG l:=by
  cases l with
  | nil=>simp at h
  | cons x r=>exact ⟨x,rfl,rfl⟩
theorem zK7 {l:List zH} (h:0<l.length) (h1:l.length≤100000):∃ x,wD l (zP ((l.length:Int) - 1))=some x∧x.At=qK l:=by
  have hne:l≠[]:=by intro e;rw [e] at h;simp at h
  rw [zKg (by omega) hne]
  unfold qK
  rw [List.getLast?_eq_some_getLast hne]
  exact ⟨_,rfl,rfl⟩
def tF (p:zB) (n:Int):Prop:=vW p≠0∨n<1∨n≥p.Events.length
instance decSplitBad {p:zB} {n:Int}:Decidable (tF p n):=inferInstanceAs (Decidable (_∨_))
def zHq (p:zB) (n:Int):zB×zB×Bool :=
  if tF p n then (pk0,pk0,false) else (⟨p.Thread,p.Serial,p.Lost,p.Events.take n.toNat⟩,⟨p.Thread,p.Serial+n,0,p.Events.drop n.toNat⟩,true)
theorem zJi {p:zB} {n:Int}:(bif (vW p != (0:Int)) then some true else (bif decide (n<(1:Int)) then some true else some (decide (n≥(((p.Events).length:Nat):Int)))))=some (decide (tF p n)):=by
  by_cases h1:vW p≠0
  · rw [qR h1,y1 (p:=tF p n) (.inl h1)];rfl
  rw [q8 (by omega),cond_false]
  by_cases h2:n<1
  · rw [y1 h2,y1 (p:=tF p n) (.inr (.inl h2))];rfl
  rw [y0 h2,cond_false]
  by_cases h3:n≥p.Events.length
  · rw [y1 h3,y1 (p:=tF p n) (.inr (.inr h3))]
  · rw [y0 h3,y0]
    unfold tF;omega
theorem zGq {α:Type} {l:List α} {n:Int} (h0:0≤n):sub l n (l.length:Int)=l.drop n.toNat:=by
  unfold sub;rw [Int.toNat_natCast,List.take_length]
theorem zGr {α:Type} {l:List α} {n:Int} (h0:0≤n):sub l 0 n=l.take n.toNat:=by
  unfold sub;simp
theorem zEV {p:zB} {n:Int} (hl:p.Events.length≤100000):jE 281474976710656 p n=some (zHq p n):=by
  unfold jE zHq xJ
  rw [zBF hl,Option.bind_some,zJi,Option.bind_some]
  by_cases hs:tF p n
  · rw [y1 hs,if_pos hs];rfl
  rw [y0 hs,if_neg hs,cond_false]
  unfold tF at hs
  have hp:=tG (p:=p) (by omega)
  rw [tM (by omega),Option.bind_some,zGq (by omega),zGr (by omega),tM (by rw [List.length_nil,List.length_drop];omega),Option.bind_some,Option.bind_some,Option.bind_some,tM (by rw [List.length_nil,List.length_take];omega),Option.bind_some,Option.bind_some,w64 (by omega) (by omega)];rfl
end Go.Ab
