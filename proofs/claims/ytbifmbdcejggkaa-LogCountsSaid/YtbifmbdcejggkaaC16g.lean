/- Chains of packets: what depends on a thread's packets only; dividing packets. No conditions but those that the theorems name. -/
import Derived.Test.YtbifmbdcejggkaaC16f
namespace Go.Ab
open Go
set_option linter.unusedVariables false

theorem zMX:∀ (x y:List zH) (p:Option Int),uU p (x++y)=if uU p x≠0 then uU p x else uU (if x=[] then p else some (t7 x)) y:=by
  intro x
  induction x with
  | nil=>intro y p;simp [uU]
  | cons e r ih =>
    intro y p
    have hc:∀ z,uU p (e::z)=if evS e≠0 then evS e else bif p.any (fun a=>decide (e.At<a)) then 11 else uU (some e.At) z:=fun z=>rfl
    rw [List.cons_append,hc,hc]
    by_cases he:evS e≠0
    · rw [if_pos he,if_pos he,if_pos he]
    rw [if_neg he,if_neg he]
    cases hp:p.any (fun a=>decide (e.At<a))
    · rw [cond_false,cond_false,ih y (some e.At)]
      have hl:(if r=[] then some e.At else some (t7 r))=(if e::r=[] then p else some (t7 (e::r))):=by
        rw [if_neg (show ¬ e::r=[] by simp)]
        by_cases hr:r=[]
        · rw [if_pos hr,hr];rfl
        · rw [if_neg hr];unfold t7;rw [List.getLast?_cons_of_ne_nil hr]
      rw [hl]
    · rfl
theorem zG0 {y:List zH} {a:Int} (hy:0<y.length):uU (some a) y=0↔uU none y=0∧a≤zBe y:=by
  cases y with
  | nil=>simp at hy
  | cons e r =>
    simp only [uU]
    have hh:zBe (e::r)=e.At:=rfl
    rw [hh]
    by_cases he:evS e≠0
    · rw [if_pos he,if_pos he];omega
    rw [if_neg he,if_neg he]
    simp only [Option.any_some,Option.any_none,cond_false]
    by_cases h:e.At<a
    · rw [y5 h];simp;omega
    · rw [yU h,cond_false];constructor
      · intro h2;exact ⟨h2,by omega⟩
      · intro h2;exact h2.1
theorem zLH {x y:List zH} (hx:0<x.length) (hy:0<y.length):uU none (x++y)=0↔uU none x=0∧uU none y=0∧t7 x≤zBe y:=by
  have hne:x≠[]:=by intro e;rw [e] at hx;simp at hx
  rw [zMX]
  by_cases h:uU none x≠0
  · rw [if_pos h];constructor
    · intro g;exact absurd g h
    · intro g;exact absurd g.1 h
  · rw [if_neg h,if_neg hne,zG0 hy]
    constructor
    · intro g;exact ⟨by omega,g⟩
    · intro g;exact g.2
theorem zDY {p:zB}:uV p=0↔¬ tM p∧0<p.Events.length∧p.Events.length≤1000∧uU none p.Events=0:=by
  unfold uV
  by_cases h1:tM p
  · rw [if_pos h1];simp [h1]
  rw [if_neg h1]
  by_cases h2:p.Events.length=0
  · rw [if_pos h2];simp [h2]
  rw [if_neg h2]
  by_cases h3:p.Events.length>1000
  · rw [if_pos h3];simp;omega
  · rw [if_neg h3]
    constructor
    · intro h;exact ⟨h1,by omega,by omega,h⟩
    · intro h;exact h.2.2.2

theorem zKR {x y:List zH} (h:0<x.length):zBe (x++y)=zBe x:=by
  cases x with
  | nil=>simp at h
  | cons a r=>rfl
theorem zKg {x y:List zH} (h:0<y.length):t7 (x++y)=t7 y:=by
  unfold t7
  rw [List.getLast?_append]
  cases hy:y.getLast? with
  | none=>rw [List.getLast?_eq_none_iff] at hy;subst hy;simp at h
  | some a=>rfl

theorem tE {l:List zB} {p:zB}:vM (l++[p])↔vM l∧uV p=0∧uC l p=true:=by
  constructor
  · exact vM.snoc
  · rintro ⟨h1,h2,h3⟩ i q hq
    rcases Nat.lt_or_ge i l.length with hlt | hge
    · rw [List.getElem?_append_left hlt] at hq
      rw [List.take_append_of_le_length (by omega)]
      exact h1 i q hq
    · have hlt:=(List.getElem?_eq_some_iff.1 hq).1
      rw [List.length_append,List.length_singleton] at hlt
      have hil:i=l.length:=by omega
      subst hil
      simp only [List.getElem?_concat_length,Option.some.injEq] at hq
      subst hq
      simp only [List.take_left']
      exact ⟨h2,h3⟩
theorem zDg:vM []:=fun i p h=>by cases h
theorem zBs {l m:List zB} {p:zB} (h:xF l p.Thread=xF m p.Thread):uC l p=uC m p:=by
  unfold uC;rw [h]
theorem zAa {l:List zB} {p:zB}:uC l p=true↔p.Serial=(xF l p.Thread).1+p.Lost∧(xF l p.Thread).2≤zBe p.Events:=by
  unfold uC
  simp only [Bool.and_eq_true,decide_eq_true_eq,ge_iff_le]
theorem zE4 (k:Int) (l:List zB):xF (ofT k l) k=xF l k:=by
  induction l using qT with
  | h0=>rfl
  | h1 l p ih =>
    rw [zAY,u6]
    by_cases h:p.Thread=k
    · rw [if_pos h,u6,ih]
    · rw [if_neg h,List.append_nil,ih];unfold pI;rw [if_neg h]
theorem zGO (k:Int) (l:List zB):xR k (ofT k l)=xR k l:=by
  induction l using qT with
  | h0=>rfl
  | h1 l p ih =>
    rw [zAY,uN]
    by_cases h:p.Thread=k
    · rw [if_pos h,uN,ih]
    · rw [if_neg h,List.append_nil,ih];unfold pO;rw [if_neg h]
theorem zKi {l:List zB}:vM l↔∀ k,vM (ofT k l):=by
  induction l using qT with
  | h0=>exact ⟨fun _ k=>zDg,fun _=>zDg⟩
  | h1 l p ih =>
    rw [tE,ih]
    constructor
    · rintro ⟨h1,h2,h3⟩ k
      rw [zAY]
      by_cases h:p.Thread=k
      · rw [if_pos h,tE]
        exact ⟨h1 k,h2,by rw [← h3];exact zBs (by rw [h];exact zE4 _ _)⟩
      · rw [if_neg h,List.append_nil];exact h1 k
    · intro h
      have hp:=h p.Thread
      rw [zAY,if_pos rfl,tE] at hp
      refine ⟨fun k=>?_,hp.2.1,by rw [← hp.2.2];exact (zBs (zE4 _ _)).symm⟩
      have hk:=h k
      rw [zAY] at hk
      by_cases e:p.Thread=k
      · rw [if_pos e,tE] at hk;exact hk.1
      · rw [if_neg e,List.append_nil] at hk;exact hk

/-! Dividing packets. -/
end Go.Ab
