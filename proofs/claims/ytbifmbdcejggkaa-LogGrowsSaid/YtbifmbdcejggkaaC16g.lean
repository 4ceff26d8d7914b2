/- Chains of packets: what depends on a thread's packets only; dividing packets. No conditions but those that the theorems name. -/
import Derived.Test.YtbifmbdcejggkaaC16f
namespace Go.Ab
open Go
set_option linter.unusedVariables false

theorem zMj:∀ (x y:List zI) (p:Option Int),uV p (x++y)=if uV p x≠0 then uV p x else uV (if x=[] then p else some (t6 x)) y:=by
  intro x
  induction x with
  | nil=>intro y p;simp [uV]
  | cons e r ih =>
    intro y p
    have hc:∀ z,uV p (e::z)=if evS e≠0 then evS e else bif p.any (fun a=>decide (e.At<a)) then 11 else uV (some e.At) z:=fun z=>rfl
    rw [List.cons_append,hc,hc]
    by_cases he:evS e≠0
    · rw [if_pos he,if_pos he,if_pos he]
    rw [if_neg he,if_neg he]
    cases hp:p.any (fun a=>decide (e.At<a))
    · rw [cond_false,cond_false,ih y (some e.At)]
      have hl:(if r=[] then some e.At else some (t6 r))=(if e::r=[] then p else some (t6 (e::r))):=by
        rw [if_neg (show ¬ e::r=[] by simp)]
        by_cases hr:r=[]
        · rw [if_pos hr,hr];rfl
        · rw [if_neg hr];unfold t6;rw [List.getLast?_cons_of_ne_nil hr]
      rw [hl]
    · rfl
theorem zGG {y:List zI} {a:Int} (hy:0<y.length):uV (some a) y=0↔uV none y=0∧a≤zA1 y:=by
  cases y with
  | nil=>simp at hy
  | cons e r =>
    simp only [uV]
    have hh:zA1 (e::r)=e.At:=rfl
    rw [hh]
    by_cases he:evS e≠0
    · rw [if_pos he,if_pos he];omega
    rw [if_neg he,if_neg he]
    simp only [Option.any_some,Option.any_none,cond_false]
    by_cases h:e.At<a
    · rw [y7 h];simp;omega
    · rw [y1 h,cond_false];constructor
      · intro h2;exact ⟨h2,by omega⟩
      · intro h2;exact h2.1
theorem zK9 {x y:List zI} (hx:0<x.length) (hy:0<y.length):uV none (x++y)=0↔uV none x=0∧uV none y=0∧t6 x≤zA1 y:=by
  have hne:x≠[]:=by intro e;rw [e] at hx;simp at hx
  rw [zMj]
  by_cases h:uV none x≠0
  · rw [if_pos h];constructor
    · intro g;exact absurd g h
    · intro g;exact absurd g.1 h
  · rw [if_neg h,if_neg hne,zGG hy]
    constructor
    · intro g;exact ⟨by omega,g⟩
    · intro g;exact g.2
theorem zDF {p:zB}:u5 p=0↔¬ tL p∧0<p.Events.length∧p.Events.length≤1000∧uV none p.Events=0:=by
  unfold u5
  by_cases h1:tL p
  · rw [if_pos h1];simp [h1]
  rw [if_neg h1]
  by_cases h2:p.Events.length=0
  · rw [if_pos h2];simp [h2]
  rw [if_neg h2]
  by_cases h3:p.Events.length>1000
  · rw [if_pos h3];simp;omega
  · rw [if_neg h3]
    constructor
    · intro h;exact ⟨h1,by omega,by omega,h⟩
    · intro h;exact h.2.2.2

theorem zJB {x y:List zI} (h:0<x.length):zA1 (x++y)=zA1 x:=by
  cases x with
  | nil=>simp at h
  | cons a r=>rfl
theorem zJ0 {x y:List zI} (h:0<y.length):t6 (x++y)=t6 y:=by
  unfold t6
  rw [List.getLast?_append]
  cases hy:y.getLast? with
  | none=>rw [List.getLast?_eq_none_iff] at hy;subst hy;simp at h
  | some a=>rfl

theorem tT {l:List zB} {p:zB}:vV (l++[p])↔vV l∧u5 p=0∧uF l p=true:=by
  constructor
  · exact vV.snoc
  · rintro ⟨h1,h2,h3⟩ i q hq
    rcases Nat.lt_or_ge i l.length with hlt | hge
    · rw [List.getElem?_append_left hlt] at hq
      rw [List.take_append_of_le_length (by omega)]
      exact h1 i q hq
    · have hlt:=(List.getElem?_eq_some_iff.1 hq).1
      rw [List.length_append,List.length_singleton] at hlt
      have hil:i=l.length:=by omega
      subst hil
      simp only [List.getElem?_concat_length,Option.some.injEq] at hq
      subst hq
      simp only [List.take_left']
      exact ⟨h2,h3⟩
theorem zCP:vV []:=fun i p h=>by cases h
theorem nF {l m:List zB} {p:zB} (h:wG l p.Thread=wG m p.Thread):uF l p=uF m p:=by
  unfold uF;rw [h]
theorem zAO {l:List zB} {p:zB}:uF l p=true↔p.Serial=(wG l p.Thread).1+p.Lost∧(wG l p.Thread).2≤zA1 p.Events:=by
  unfold uF
  simp only [Bool.and_eq_true,decide_eq_true_eq,ge_iff_le]
theorem zEx (k:Int) (l:List zB):wG (ofT k l) k=wG l k:=by
  induction l using q8 with
  | h0=>rfl
  | h1 l p ih =>
    rw [zAy,t0]
    by_cases h:p.Thread=k
    · rw [if_pos h,t0,ih]
    · rw [if_neg h,List.append_nil,ih];unfold nJ;rw [if_neg h]
theorem zGE (k:Int) (l:List zB):xL k (ofT k l)=xL k l:=by
  induction l using q8 with
  | h0=>rfl
  | h1 l p ih =>
    rw [zAy,uP]
    by_cases h:p.Thread=k
    · rw [if_pos h,uP,ih]
    · rw [if_neg h,List.append_nil,ih];unfold kR;rw [if_neg h]
theorem zJY {l:List zB}:vV l↔∀ k,vV (ofT k l):=by
  induction l using q8 with
  | h0=>exact ⟨fun _ k=>zCP,fun _=>zCP⟩
  | h1 l p ih =>
    rw [tT,ih]
    constructor
    · rintro ⟨h1,h2,h3⟩ k
      rw [zAy]
      by_cases h:p.Thread=k
      · rw [if_pos h,tT]
        exact ⟨h1 k,h2,by rw [← h3];exact nF (by rw [h];exact zEx _ _)⟩
      · rw [if_neg h,List.append_nil];exact h1 k
    · intro h
      have hp:=h p.Thread
      rw [zAy,if_pos rfl,tT] at hp
      refine ⟨fun k=>?_,hp.2.1,by rw [← hp.2.2];exact (nF (zEx _ _)).symm⟩
      have hk:=h k
      rw [zAy] at hk
      by_cases e:p.Thread=k
      · rw [if_pos e,tT] at hk;exact hk.1
      · rw [if_neg e,List.append_nil] at hk;exact hk

/-! Dividing packets. -/
end Go.Ab
