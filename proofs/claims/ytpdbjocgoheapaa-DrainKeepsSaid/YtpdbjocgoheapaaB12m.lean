/- Plain laws of the functions below this seat's, laid anew from another seat's text. No conditions but those that the theorems name. -/
import Derived.Test.YtpdbjocgoheapaaP12xD
import Derived.Test.YtpdbjocgoheapaaB12b
import Derived.Test.YtpdbjocgoheapaaB12c
import Derived.Test.YtpdbjocgoheapaaB12d
import Derived.Test.YtpdbjocgoheapaaB12e
import Derived.Test.YtpdbjocgoheapaaB12f
import Derived.Test.YtpdbjocgoheapaaB12g
import Derived.Test.YtpdbjocgoheapaaB12h
import Derived.Test.YtpdbjocgoheapaaB12i
import Derived.Test.YtpdbjocgoheapaaB12j
import Derived.Test.YtpdbjocgoheapaaB12k
import Derived.Test.YtpdbjocgoheapaaB12l
namespace Go.Ab
open Go
set_option linter.unusedVariables false
theorem fold_sums : ∀ {l : List T_api_Packet} {out : List T_api_Packet}, lostN (l.foldl pushS out) = lostN out + lostN l ∧ evN' (l.foldl pushS out) = evN' out + evN' l := by
  intro l
  induction l with
  | nil => intro out; simp [lostN, evN']
  | cons p r ih =>
    intro out
    have h1 := ih (out := pushS out p)
    have h2 := push_sums (out := out) (p := p)
    rw [List.foldl_cons, h1.1, h1.2, h2.1, h2.2, evN_cons]
    have : lostN (p :: r) = p.Lost + lostN r := by simp [lostN]
    rw [this]; constructor <;> omega
theorem fold_cov : ∀ {l : List T_api_Packet} {out : List T_api_Packet}, (∀ p, Cov out p → Cov (l.foldl pushS out) p) ∧ ∀ p ∈ l, Cov (l.foldl pushS out) p := by
  intro l
  induction l with
  | nil => intro out; exact ⟨fun p h => h, fun p h => by cases h⟩
  | cons x r ih =>
    intro out
    have h := ih (out := pushS out x)
    refine ⟨fun p hp => h.1 p hp.push, fun p hp => ?_⟩
    rcases List.mem_cons.1 hp with rfl | hp
    · exact h.1 p Cov.push_self
    · exact h.2 p hp
theorem fold_K : ∀ {l : List T_api_Packet} {out : List T_api_Packet}, OutK out → (∀ p ∈ l, packS p = 0) → OutK (l.foldl pushS out) := by
  intro l
  induction l with
  | nil => intro out h _; exact h
  | cons x r ih => intro out h hp; exact ih (h.push (hp x (by simp))) (fun p hq => hp p (by simp [hq]))
/-- The packets of some threads. -/
def ofL (ts : List T_api_Thread) (l : List T_api_Packet) : List T_api_Packet := l.filter fun p => decide (p.Thread ∈ idsL ts)
theorem ofL_sums {t : T_api_Thread} {r : List T_api_Thread} (h : t.Id ∉ idsL r) : ∀ l : List T_api_Packet, lostN (ofL (t :: r) l) = lostN (ofT t.Id l) + lostN (ofL r l) ∧ evN' (ofL (t :: r) l) = evN' (ofT t.Id l) + evN' (ofL r l) := by
  intro l
  induction l with
  | nil => simp [ofL, ofT, lostN, evN']
  | cons p q ih =>
    have c1 : ∀ (p : T_api_Packet) (q : List T_api_Packet), lostN (p :: q) = p.Lost + lostN q := fun p q => by simp [lostN]
    by_cases h1 : p.Thread = t.Id
    · have h2 : p.Thread ∉ idsL r := by rw [h1]; exact h
      have e1 : ofL (t :: r) (p :: q) = p :: ofL (t :: r) q := by unfold ofL; rw [List.filter_cons_of_pos (by simp [idsL, h1])]
      have e2 : ofT t.Id (p :: q) = p :: ofT t.Id q := by unfold ofT; rw [List.filter_cons_of_pos (by simpa using h1)]
      have e3 : ofL r (p :: q) = ofL r q := by unfold ofL; rw [List.filter_cons_of_neg (by simpa using h2)]
      rw [e1, e2, e3, c1, c1, evN_cons, evN_cons, ih.1, ih.2]; constructor <;> omega
    · have e2 : ofT t.Id (p :: q) = ofT t.Id q := by unfold ofT; rw [List.filter_cons_of_neg (by simpa using h1)]
      by_cases h2 : p.Thread ∈ idsL r
      · have e1 : ofL (t :: r) (p :: q) = p :: ofL (t :: r) q := by unfold ofL; rw [List.filter_cons_of_pos (by simp only [idsL, List.map_cons, List.mem_cons, decide_eq_true_eq]; exact .inr h2)]
        have e3 : ofL r (p :: q) = p :: ofL r q := by unfold ofL; rw [List.filter_cons_of_pos (by simpa using h2)]
        rw [e1, e2, e3, c1, c1, evN_cons, evN_cons, ih.1, ih.2]; constructor <;> omega
      · have e1 : ofL (t :: r) (p :: q) = ofL (t :: r) q := by unfold ofL; rw [List.filter_cons_of_neg (by simp only [idsL, List.map_cons, List.mem_cons, decide_eq_true_eq]; rintro (e | e); exact h1 e; exact h2 e)]
        have e3 : ofL r (p :: q) = ofL r q := by unfold ofL; rw [List.filter_cons_of_neg (by simpa using h2)]
        rw [e1, e2, e3]; exact ih
theorem flush_all {s : T_api_Service} : ∀ (ts : List T_api_Thread) (out : List T_api_Packet), (idsL ts).Nodup → OutK out → (∀ p ∈ s.Queue, packS p = 0) →
    lostN (ts.foldl (flushT s) out) = lostN out + lostN (ofL ts s.Queue) ∧ evN' (ts.foldl (flushT s) out) = evN' out + evN' (ofL ts s.Queue) ∧ OutK (ts.foldl (flushT s) out) ∧ (∀ p, Cov out p → Cov (ts.foldl (flushT s) out) p) ∧ ∀ p ∈ s.Queue, p.Thread ∈ idsL ts → Cov (ts.foldl (flushT s) out) p := by
  intro ts
  induction ts with
  | nil =>
    intro out _ hK _
    have e : ofL [] s.Queue = [] := by simp [ofL, idsL]
    rw [e]
    exact ⟨by simp [lostN], by simp [evN'], hK, fun p h => h, fun p _ h => by simp [idsL] at h⟩
  | cons t r ih =>
    intro out hn hK hv
    have hn2 : t.Id ∉ idsL r ∧ (idsL r).Nodup := by simpa [idsL] using hn
    have hvt : ∀ p ∈ ofT t.Id s.Queue, packS p = 0 := fun p hp => hv p (List.mem_filter.1 hp).1
    obtain ⟨k1, k2, k3, k4, k5⟩ := ih (flushT s out t) hn2.2 (fold_K hK hvt) hv
    have hs := fold_sums (l := ofT t.Id s.Queue) (out := out)
    have hc := fold_cov (l := ofT t.Id s.Queue) (out := out)
    have ho := ofL_sums hn2.1 s.Queue
    rw [List.foldl_cons]
    refine ⟨by rw [k1]; unfold flushT; rw [hs.1, ho.1]; omega, by rw [k2]; unfold flushT; rw [hs.2, ho.2]; omega, k3, fun p hp => k4 p (hc.1 p hp), fun p hp ht => ?_⟩
    by_cases h1 : p.Thread = t.Id
    · exact k4 p (hc.2 p (List.mem_filter.2 ⟨hp, by simpa using h1⟩))
    · exact k5 p hp (by
        simp only [idsL, List.map_cons, List.mem_cons] at ht
        rcases ht with ht | ht
        · exact absurd ht h1
        · exact ht)
theorem flush_keeps {s : T_api_Service} (h : chkS s = 0) : lostN (flushS s) = lostN s.Queue ∧ evN' (flushS s) = evN' s.Queue ∧ OutK (flushS s) ∧ ∀ p ∈ s.Queue, Cov (flushS s) p := by
  have hc := chk_threads h
  have hb : ∀ p ∈ s.Queue, ¬ pkBad s.Threads p := fun p hp hb => by
    have := qok_bad (ts := s.Threads) (next := s.Next) (row := []) hp hb
    rw [hc.2.2] at this; cases this
  have hv : ∀ p ∈ s.Queue, packS p = 0 := fun p hp => by have := hb p hp; unfold pkBad at this; omega
  have hm : ∀ p ∈ s.Queue, p.Thread ∈ idsL s.Threads := fun p hp => by
    have := hb p hp
    unfold pkBad at this
    obtain ⟨t, ht, he⟩ := atS_get (l := s.Threads) (id := p.Thread) (by omega)
    rw [← he]
    exact List.mem_map.2 ⟨t, List.mem_of_getElem? ht, rfl⟩
  have e : ofL s.Threads s.Queue = s.Queue := List.filter_eq_self.2 (fun p hp => by simpa using hm p hp)
  obtain ⟨k1, k2, k3, k4, k5⟩ := flush_all s.Threads [] (ids_nodup hc.1) ⟨(fun q hq => by cases hq), (fun i a b ha => by simp at ha)⟩ hv
  rw [e] at k1 k2
  exact ⟨by unfold flushS; rw [k1]; simp [lostN], by unfold flushS; rw [k2]; simp [evN'], k3, fun p hp => k5 p hp (hm p hp)⟩
end Go.Ab
