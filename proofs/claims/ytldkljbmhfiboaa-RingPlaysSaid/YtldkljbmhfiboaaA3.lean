/- What the operations that only compute give: integers, truth values, strings, conversions, parts of values, places. -/
import Derived.Test.YtldkljbmhfiboaaA2
namespace Go.Ab
open Go

structure Hint where
  id : Nat := 0
  n : Nat := 0
  z : Int := 0
  m : Nat := 0
  b : Bool := false
  av : AV := .junk
  l : List AV := []
  s : List Int := []
  ids : List Nat := []
  pre : List Box := []
  post : List Box := []
  lend : List Nat := []
  frz : List Nat := []
  lo : List (Nat × List Nat) := []
  g : Bool := true
  dep : Bool := false
  vc : List Prop := []
  mag : Bool := false
  mks : List KSh := []
  es : List (AV × AV) := []
  giv : List Box := []
  gids : List Nat := []
  x : Bool := false
  deriving Inhabited

def bytesOf (s : ByteArray) : List Int := s.data.toList.map fun c => (c.toNat : Int)

def ofConst1 : Value → AV
  | .int k n => .int k n
  | .bool b => .bool b
  | .string s => .str (bytesOf s)
  | .slice none 0 0 => .nilsl
  | .pointer none => .nilp
  | _ => .junk

def ofConst : Value → AV
  | .agg vs => .agg (vs.toList.map ofConst1)
  | v => ofConst1 v

def okConst1 : Value → Bool
  | .int k n => decide (k.wrap n = n)
  | .bool _ => true
  | .string s => Nat.ble s.data.size 9223372036854775807
  | .slice none 0 0 => true
  | .pointer none => true
  | _ => false

def okConst : Value → Bool
  | .agg vs => vs.toList.all okConst1
  | v => okConst1 v

theorem maxLen_eq : maxLen = 9223372036854775807 := by decide

theorem toBA_bytesOf (s : ByteArray) : toBA (bytesOf s) = s := by
  obtain ⟨d⟩ := s
  simp only [toBA, bytesOf, List.map_map]
  congr 1
  have : ((fun x : Int => UInt8.ofNat x.toNat) ∘ fun c : UInt8 => (c.toNat : Int)) = id := by
    funext c; simp
  rw [this, List.map_id]

theorem bytesOf_range (s : ByteArray) : ∀ x ∈ bytesOf s, 0 ≤ x ∧ x < 256 := by
  intro x hx
  simp only [bytesOf, List.mem_map] at hx
  obtain ⟨c, _, rfl⟩ := hx
  have := c.toNat_lt
  omega

theorem rep_const1 {w : World} {I : Nat → Prop} {T : Tbl} {v : Value} (h : okConst1 v = true) : Rep w I T v (ofConst1 v) := by
  cases v with
  | int k n => exact .int (of_decide_eq_true h)
  | bool b => exact .bool
  | string s =>
    have hs : s.data.size ≤ 9223372036854775807 := Nat.le_of_ble_eq_true h
    have := Rep.str (w := w) (I := I) (T := T) (l := bytesOf s) (bytesOf_range s) (by rw [maxLen_eq]; simpa [bytesOf] using hs)
    rw [toBA_bytesOf] at this
    exact this
  | slice a l c =>
    unfold okConst1 at h
    split at h <;> simp_all
    rename_i heq
    obtain ⟨rfl, rfl, rfl⟩ := heq
    exact .nilsl
  | pointer a =>
    cases a with
    | none => exact .nilp
    | some a => simp [okConst1] at h
  | _ => simp [okConst1] at h

theorem okConst1_one {v : Value} (h : okConst1 v = true) : (ofConst1 v).one = true := by
  unfold okConst1 at h
  split at h <;> simp_all [ofConst1, AV.one]

theorem rep_const {w : World} {I : Nat → Prop} {T : Tbl} {v : Value} (h : okConst v = true) : Rep w I T v (ofConst v) := by
  cases v with
  | agg vs =>
    simp only [okConst, List.all_eq_true] at h
    refine .agg (by simp) ?_ ?_
    · intro c hc
      simp only [List.mem_map] at hc
      obtain ⟨v, hv, rfl⟩ := hc
      exact okConst1_one (h v hv)
    · intro j c hj
      rw [List.getElem?_map] at hj
      cases hvj : vs.toList[j]? with
      | none => rw [hvj] at hj; cases hj
      | some v =>
        rw [hvj] at hj
        injection hj with hj
        subst hj
        have hv : v ∈ vs.toList := List.mem_of_getElem? hvj
        have : vs.getD j undef = v := by
          simp only [Array.getD_eq_getD_getElem?]
          rw [Array.getElem?_toList] at hvj
          rw [hvj]; rfl
        rw [this]
        exact rep_const1 (h v hv)
  | _ => exact rep_const1 h

def aval (st : AS) : Operand → AV
  | .tmp t => st.slot t
  | .const v => ofConst v
  | .global _ => .junk
  | .func f => .fn f []

def opOk : Operand → Bool
  | .const v => okConst v
  | _ => true

theorem aval_rep {G : Ghost} {st : AS} {T : Tbl} {a : Act} {w : World} (h : RelT G st T a w) {x : Operand} (hx : opOk x = true) :
    Rep w (imm G st T) T (a.eval x) (aval st x) := by
  cases x with
  | tmp t => exact h.slots t
  | const v => exact rep_const hx
  | global g => exact .junk
  | func f => exact .fn rfl (fun j c hj => by simp at hj)

def rsOf (st : AS) : List Operand → List (Nat × AV)
  | [] => []
  | .tmp t :: r => (t, st.slot t) :: rsOf st r
  | _ :: r => rsOf st r

theorem aval_congr {st st' : AS} {xs : List Operand} (h : ∀ y ∈ rsOf st xs, st'.slot y.1 = y.2) {x : Operand} (hx : x ∈ xs) : aval st' x = aval st x := by
  induction xs with
  | nil => cases hx
  | cons y r ih =>
    cases hx with
    | head =>
      cases x with
      | tmp t => exact h (t, st.slot t) (by simp [rsOf])
      | _ => rfl
    | tail _ hx =>
      refine ih ?_ hx
      intro z hz
      exact h z (by cases y <;> simp [rsOf, hz])

/-! Integers. -/
def kindEq : IntKind → IntKind → Bool
  | .i8, .i8 | .i16, .i16 | .i32, .i32 | .i64, .i64 | .u8, .u8 | .u16, .u16 | .u32, .u32 | .u64, .u64 => true
  | _, _ => false

theorem kindEq_eq {a b : IntKind} (h : kindEq a b = true) : a = b := by cases a <;> cases b <;> simp_all [kindEq]

def iand (k : IntKind) (x y : Int) : Int := k.wrap (BitVec.ofInt k.bits x &&& BitVec.ofInt k.bits y).toNat
def ior (k : IntKind) (x y : Int) : Int := k.wrap (BitVec.ofInt k.bits x ||| BitVec.ofInt k.bits y).toNat
def ixor (k : IntKind) (x y : Int) : Int := k.wrap (BitVec.ofInt k.bits x ^^^ BitVec.ofInt k.bits y).toNat
def iandNot (k : IntKind) (x y : Int) : Int := k.wrap (BitVec.ofInt k.bits x &&& ~~~BitVec.ofInt k.bits y).toNat
def ishl (k : IntKind) (x y : Int) : Int := k.wrap (x * 2 ^ (min y.toNat k.bits))
def ishr (k : IntKind) (x y : Int) : Int := x.fdiv (2 ^ (min y.toNat k.bits))
def iquo (k : IntKind) (x y : Int) : Int := k.wrap (x.tdiv y)
def irem (x y : Int) : Int := x.tmod y

theorem wrap_wrap (k : IntKind) (n : Int) : k.wrap (k.wrap n) = k.wrap n := by
  cases k <;> simp only [IntKind.wrap, IntKind.bits, IntKind.signed] <;> simp <;> omega

theorem wrap_range (k : IntKind) (n : Int) (h : k.wrap n = n) : (if k.signed then -(2 ^ (k.bits - 1) : Int) else 0) ≤ n ∧ n < (if k.signed then 2 ^ (k.bits - 1) else 2 ^ k.bits) := by
  cases k <;> simp only [IntKind.wrap, IntKind.bits, IntKind.signed] at h ⊢ <;> simp at h ⊢ <;> omega

theorem wrap_of_range (k : IntKind) (n : Int) (h : (if k.signed then -(2 ^ (k.bits - 1) : Int) else 0) ≤ n ∧ n < (if k.signed then 2 ^ (k.bits - 1) else 2 ^ k.bits)) : k.wrap n = n := by
  cases k <;> simp only [IntKind.wrap, IntKind.bits, IntKind.signed] at h ⊢ <;> simp at h ⊢ <;> omega

theorem wrap_smaller (k : IntKind) (n m : Int) (h : k.wrap n = n) (h1 : 0 ≤ n → 0 ≤ m ∧ m ≤ n) (h2 : n < 0 → n ≤ m ∧ m < 0) : k.wrap m = m := by
  have hr := wrap_range k n h
  refine wrap_of_range k m ?_
  rcases Int.lt_or_le n 0 with h' | h'
  · have := h2 h'
    cases k <;> simp only [IntKind.bits, IntKind.signed] at hr ⊢ <;> simp at hr ⊢ <;> omega
  · have := h1 h'
    cases k <;> simp only [IntKind.bits, IntKind.signed] at hr ⊢ <;> simp at hr ⊢ <;> omega

theorem wrap_ishr (k : IntKind) (x y : Int) (h : k.wrap x = x) : k.wrap (ishr k x y) = ishr k x y := by
  have hp : (0 : Int) < 2 ^ (min y.toNat k.bits) := Int.pow_pos (by omega)
  have he : ishr k x y = x / 2 ^ (min y.toNat k.bits) := by
    unfold ishr
    rw [Int.fdiv_eq_ediv_of_nonneg]
    omega
  rw [he]
  refine wrap_smaller k x _ h ?_ ?_
  · intro hx
    exact ⟨Int.ediv_nonneg hx (by omega), Int.ediv_le_self _ hx⟩
  · intro hx
    refine ⟨?_, Int.ediv_neg_of_neg_of_pos hx hp⟩
    have h1 : (1 : Int) ≤ 2 ^ (min y.toNat k.bits) := by omega
    rw [Int.le_ediv_iff_mul_le hp]
    have : x * 2 ^ (min y.toNat k.bits) ≤ x * 1 := Int.mul_le_mul_of_nonpos_left (by omega) h1
    omega

theorem tmod_le {x : Int} (y : Int) (hx : 0 ≤ x) : x.tmod y ≤ x := by
  have h1 := Int.natAbs_tmod x y
  have h2 := Nat.mod_le x.natAbs y.natAbs
  have h3 := Int.tmod_nonneg y hx
  omega

theorem wrap_irem (k : IntKind) (x y : Int) (h : k.wrap x = x) : k.wrap (irem x y) = irem x y := by
  unfold irem
  have hr := wrap_range k x h
  refine wrap_of_range k _ ?_
  have h1 : 0 ≤ x → 0 ≤ x.tmod y ∧ x.tmod y ≤ x := fun hx => ⟨Int.tmod_nonneg _ hx, tmod_le _ hx⟩
  have h2 : x < 0 → x ≤ x.tmod y ∧ x.tmod y ≤ 0 := fun hx => by
    have e : x.tmod y = -((-x).tmod y) := by rw [Int.neg_tmod]; omega
    have a1 := Int.tmod_nonneg y (a := -x) (by omega)
    have a2 : (-x).tmod y ≤ -x := tmod_le y (by omega)
    omega
  rcases Int.lt_or_le x 0 with h' | h'
  · have := h2 h'
    cases k <;> simp only [IntKind.bits, IntKind.signed] at hr ⊢ <;> simp at hr ⊢ <;> omega
  · have := h1 h'
    cases k <;> simp only [IntKind.bits, IntKind.signed] at hr ⊢ <;> simp at hr ⊢ <;> omega

end Go.Ab
