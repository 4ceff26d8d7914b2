/- The operations that only compute, one by one. -/
import Derived.Test.YtldkljbmhfiboaaA3
import Derived.Laws.BytesString
import Derived.Laws.Small
import Derived.WideShapes
import Derived.Lib.SliceRun
namespace Go.Ab
open Go

/-- What an operation that writes no block of the call's own gives. -/
def VRes (P : Program) (ρ : Operand → Value) (o : Oper) (w : World) (I : Nat → Prop) (T : Tbl) (av : AV) : Prop :=
  ∃ v w', (execOp ρ o).run P w = .ok (.value v) w' ∧ w.grownBy w' none ∧
    ∀ I' T', (∀ b, I b → b < w.heap.size → I' b) → (∀ b, w.heap.size ≤ b → b < w'.heap.size → I' b) → T.le T' → Rep w' I' T' v av

theorem grown_refl (w : World) : w.grownBy w none := ⟨rfl, rfl, rfl, Nat.le_refl _, fun _ _ _ => rfl⟩

theorem VRes.same {P : Program} {ρ : Operand → Value} {o : Oper} {w : World} {I : Nat → Prop} {T : Tbl} {av : AV} {v : Value}
    (h : (execOp ρ o).run P w = .ok (.value v) w) (hr : Rep w I T v av) : VRes P ρ o w I T av :=
  ⟨v, w, h, grown_refl w, fun _ _ hI _ hT => hr.mono (Nat.le_refl _) (fun _ _ _ => rfl) hI hT⟩

/-! Operators on integers, truth values and strings. -/
def vbinInt (op : BinOp) (k : IntKind) (a : Int) (b : Int) : Option (List Prop × AV) :=
  match op with
  | .add => some ([], .int k (k.wrap (a + b)))
  | .sub => some ([], .int k (k.wrap (a - b)))
  | .mul => some ([], .int k (k.wrap (a * b)))
  | .quo => some ([b ≠ 0], .int k (iquo k a b))
  | .rem => some ([b ≠ 0], .int k (irem a b))
  | .and => some ([], .int k (iand k a b))
  | .or => some ([], .int k (ior k a b))
  | .xor => some ([], .int k (ixor k a b))
  | .andNot => some ([], .int k (iandNot k a b))
  | .eql => some ([], .bool (a == b))
  | .neq => some ([], .bool (a != b))
  | .lss => some ([], .bool (decide (a < b)))
  | .leq => some ([], .bool (decide (a ≤ b)))
  | .gtr => some ([], .bool (decide (a > b)))
  | .geq => some ([], .bool (decide (a ≥ b)))
  | _ => none

def strLess : List Int → List Int → Bool
  | _, [] => false
  | [], _ :: _ => true
  | a :: x, b :: y => decide (a < b) || (a == b && strLess x y)

def isBool (P : Program) (t : TypeId) : Bool := match P.underlying t with | some .bool => true | _ => false
def isString (P : Program) (t : TypeId) : Bool := match P.underlying t with | some .string => true | _ => false

theorem isBool_eq {P : Program} {t : TypeId} (h : isBool P t = true) : P.underlying t = some .bool := by
  unfold isBool at h; split at h <;> simp_all
theorem isString_eq {P : Program} {t : TypeId} (h : isString P t = true) : P.underlying t = some .string := by
  unfold isString at h; split at h <;> simp_all

def isSlT (P : Program) (t : TypeId) : Bool := match P.underlying t with | some (.slice _) => true | _ => false
theorem isSlT_eq {P : Program} {t : TypeId} (h : isSlT P t = true) : ∃ e, P.underlying t = some (.slice e) := by
  unfold isSlT at h; split at h
  · rename_i e he; exact ⟨e, he⟩
  · cases h

def vbin (P : Program) (op : BinOp) (xT : TypeId) (x y : AV) : Option (List Prop × AV) :=
  match x, y with
  | .int k a, .int k' b =>
    match op with
    | .shl => some ([0 ≤ b], .int k (ishl k a b))
    | .shr => some ([0 ≤ b], .int k (ishr k a b))
    | op => bif kindEq k k' then vbinInt op k a b else none
  | .bool a, .bool b =>
    bif isBool P xT then
      match op with
      | .eql => some ([], .bool (a == b))
      | .neq => some ([], .bool (!(a == b)))
      | _ => none
    else none
  | .str a, .str b =>
    match op with
    | .eql => some ([], .bool (a == b))
    | .neq => some ([], .bool (!(a == b)))
    | .lss => some ([], .bool (strLess a b))
    | .leq => some ([], .bool (strLess a b || a == b))
    | .gtr => some ([], .bool !(strLess a b || a == b))
    | .geq => some ([], .bool !(strLess a b))
    | .add => some ([a.length + b.length ≤ 9223372036854775807], .str (a ++ b))
    | _ => none
  | .sl _ _ l, .nilsl =>
    match op with
    | .eql => bif isSlT P xT then some ([], .nb l) else none
    | _ => none
  | _, _ => none

theorem toBA_toList (l : List Int) : (toBA l).toList = l.map fun x => UInt8.ofNat x.toNat := by
  rw [ByteArray.toList_eq]; simp [toBA]

theorem toBA_size (l : List Int) : (toBA l).size = l.length := by simp [toBA, ByteArray.size]

theorem u8_inj {a b : Int} (ha : 0 ≤ a ∧ a < 256) (hb : 0 ≤ b ∧ b < 256) : UInt8.ofNat a.toNat = UInt8.ofNat b.toNat ↔ a = b := by
  constructor
  · intro h
    have h1 : (UInt8.ofNat a.toNat).toNat = (UInt8.ofNat b.toNat).toNat := by rw [h]
    simp only [UInt8.toNat_ofNat'] at h1
    omega
  · intro h; rw [h]

theorem u8_lt {a b : Int} (ha : 0 ≤ a ∧ a < 256) (hb : 0 ≤ b ∧ b < 256) : (UInt8.ofNat a.toNat < UInt8.ofNat b.toNat) ↔ a < b := by
  rw [UInt8.lt_iff_toNat_lt]
  simp only [UInt8.toNat_ofNat']
  omega

theorem str_eq {a b : List Int} (ha : ∀ x ∈ a, 0 ≤ x ∧ x < 256) (hb : ∀ x ∈ b, 0 ≤ x ∧ x < 256) :
    ((toBA a).toList == (toBA b).toList) = (a == b) := by
  rw [toBA_toList, toBA_toList]
  induction a generalizing b with
  | nil => cases b <;> simp
  | cons x r ih =>
    cases b with
    | nil => simp
    | cons y s =>
      have h1 := ih (b := s) (fun z hz => ha z (by simp [hz])) (fun z hz => hb z (by simp [hz]))
      simp only [List.map_cons, List.cons_beq_cons, h1]
      congr 1
      rw [Bool.eq_iff_iff]
      simp only [beq_iff_eq]
      exact u8_inj (ha x (by simp)) (hb y (by simp))

theorem str_less {a b : List Int} (ha : ∀ x ∈ a, 0 ≤ x ∧ x < 256) (hb : ∀ x ∈ b, 0 ≤ x ∧ x < 256) :
    Op.bytesLess (toBA a).toList (toBA b).toList = strLess a b := by
  rw [toBA_toList, toBA_toList]
  induction a generalizing b with
  | nil => cases b <;> simp [Op.bytesLess, strLess]
  | cons x r ih =>
    cases b with
    | nil => simp [Op.bytesLess, strLess]
    | cons y s =>
      have h1 := ih (b := s) (fun z hz => ha z (by simp [hz])) (fun z hz => hb z (by simp [hz]))
      simp only [List.map_cons, Op.bytesLess, strLess, h1]
      have e1 := u8_inj (ha x (by simp)) (hb y (by simp))
      have e2 := u8_lt (ha x (by simp)) (hb y (by simp))
      congr 1
      · rw [Bool.eq_iff_iff]; simp only [decide_eq_true_eq]; exact e2
      · congr 1; rw [Bool.eq_iff_iff]; simp only [beq_iff_eq]; exact e1

theorem run_exec_bin {P : Program} {op : BinOp} {xT yT : TypeId} {x y : Operand} {ρ : Operand → Value} {o : Oper} {w : World} {X Y v : Value}
    (ho : o.op = .binOp op xT x y yT) (hX : ρ x = X) (hY : ρ y = Y) (hg : (eqGuard op xT x y X Y).run P w = .ok () w) (hb : (binOp op xT X Y).run P w = .ok v w) :
    (execOp ρ o).run P w = .ok (.value v) w := by
  simp only [execOp, ho, hX, hY, Sem.run_bind, hg, Result.andThen_ok, hb]
  rfl

theorem eqGuard_plain {P : Program} {op : BinOp} {xT : TypeId} {x y : Operand} {w : World} {X Y : Value} (hX : match X with | .nilIface | .agg _ => False | _ => True) :
    (eqGuard op xT x y X Y).run P w = .ok () w := by
  unfold eqGuard
  cases X <;> first | exact hX.elim | (cases op <;> cases Y <;> simp)

theorem vbinInt_sound {P : Program} {op : BinOp} {k : IntKind} {a b : Int} {xT : TypeId} {w : World} {I : Nat → Prop} {T : Tbl} {r : List Prop × AV}
    (h : vbinInt op k a b = some r) (hv : ∀ p ∈ r.1, p) (wa : k.wrap a = a) : ∃ v, (binOp op xT (.int k a) (.int k b)).run P w = .ok v w ∧ Rep w I T v r.2 := by
  cases op <;> simp only [vbinInt, Option.some.injEq, reduceCtorEq] at h <;> subst h
  case add => exact ⟨_, by simp [binOp, Op.intArith], .int (wrap_wrap _ _)⟩
  case sub => exact ⟨_, by simp [binOp, Op.intArith], .int (wrap_wrap _ _)⟩
  case mul => exact ⟨_, by simp [binOp, Op.intArith], .int (wrap_wrap _ _)⟩
  case and => exact ⟨.int k (iand k a b), by simp [binOp, Op.intBits, iand], .int (wrap_wrap _ _)⟩
  case or => exact ⟨.int k (ior k a b), by simp [binOp, Op.intBits, ior], .int (wrap_wrap _ _)⟩
  case xor => exact ⟨.int k (ixor k a b), by simp [binOp, Op.intBits, ixor], .int (wrap_wrap _ _)⟩
  case andNot => exact ⟨.int k (iandNot k a b), by simp [binOp, Op.intBits, iandNot], .int (wrap_wrap _ _)⟩
  case quo =>
    have h0 : b ≠ 0 := hv _ (by simp)
    exact ⟨.int k (iquo k a b), by simp [binOp, Op.intDiv, iquo, h0], .int (wrap_wrap _ _)⟩
  case rem =>
    have h0 : b ≠ 0 := hv _ (by simp)
    exact ⟨.int k (irem a b), by simp [binOp, Op.intDiv, irem, h0], .int (wrap_irem _ _ _ wa)⟩
  all_goals exact ⟨_, by simp [binOp, Op.intCmp], .bool⟩

theorem vbin_sound {P : Program} {op : BinOp} {xT yT : TypeId} {x y : Operand} {ρ : Operand → Value} {o : Oper} {w : World} {I : Nat → Prop} {T : Tbl} {X Y : AV} {r : List Prop × AV}
    (ho : o.op = .binOp op xT x y yT) (hx : Rep w I T (ρ x) X) (hy : Rep w I T (ρ y) Y) (h : vbin P op xT X Y = some r) (hv : ∀ p ∈ r.1, p) : VRes P ρ o w I T r.2 := by
  unfold vbin at h
  split at h
  · rename_i k a k' b
    generalize hX : ρ x = vx at hx
    generalize hY : ρ y = vy at hy
    cases hx with
    | int wa =>
    cases hy with
    | int wb =>
    split at h
    · injection h with h; subst h
      have h0 : 0 ≤ b := hv _ (by simp)
      exact .same (run_exec_bin ho hX hY (eqGuard_plain trivial) (by simp [binOp, Op.shift, ishl, Int.not_lt.2 h0])) (.int (wrap_wrap _ _))
    · injection h with h; subst h
      have h0 : 0 ≤ b := hv _ (by simp)
      exact .same (run_exec_bin ho hX hY (eqGuard_plain trivial) (by simp [binOp, Op.shift, ishr, Int.not_lt.2 h0])) (.int (wrap_ishr _ _ _ wa))
    · rename_i hns hnr
      cases hk : kindEq k k'
      · rw [hk] at h; cases h
      · rw [hk] at h
        have := kindEq_eq hk
        subst this
        simp only [cond_true] at h
        obtain ⟨v, h1, h2⟩ := vbinInt_sound (P := P) (xT := xT) (w := w) (I := I) (T := T) h hv wa
        exact .same (run_exec_bin ho hX hY (eqGuard_plain trivial) h1) h2
  · rename_i a b
    generalize hX : ρ x = vx at hx
    generalize hY : ρ y = vy at hy
    cases hx with
    | bool =>
    cases hy with
    | bool =>
    cases hb : isBool P xT
    · rw [hb] at h; cases h
    · rw [hb] at h
      simp only [cond_true] at h
      have ht := isBool_eq hb
      split at h <;> first | (injection h with h; subst h) | cases h
      · exact .same (run_exec_bin ho hX hY (eqGuard_plain trivial) (run_eql_bool w xT a b ht)) .bool
      · exact .same (run_exec_bin ho hX hY (eqGuard_plain trivial) (run_neq_bool w xT a b ht)) .bool
  · rename_i a b
    generalize hX : ρ x = vx at hx
    generalize hY : ρ y = vy at hy
    cases hx with
    | str ra la =>
    cases hy with
    | str rb lb =>
    have e1 := str_eq ra rb
    have e2 := str_less ra rb
    split at h <;> first | (injection h with h; subst h) | cases h
    iterate 6 (exact .same (run_exec_bin ho hX hY (eqGuard_plain trivial) (by simp only [binOp, Op.stringOp, e1, e2]; rfl)) .bool)
    have h0 : a.length + b.length ≤ 9223372036854775807 := hv _ (by simp)
    refine .same (run_exec_bin (v := .string (toBA (a ++ b))) ho hX hY (eqGuard_plain trivial) ?_) (.str (fun z hz => ?_) (by rw [maxLen_eq]; simpa using h0))
    · have : ¬ ((((toBA a).size + (toBA b).size : Nat) : Int) > IntKind.i64.max) := by
        rw [toBA_size, toBA_size]
        have : IntKind.i64.max = 9223372036854775807 := by decide
        omega
      have hcat : toBA a ++ toBA b = toBA (a ++ b) := by
        simp only [toBA, List.map_append]
        apply WideShapes.bytes_inj
        simp
      simp only [binOp, Op.stringOp, this, hcat]
      simp
    · rcases List.mem_append.1 hz with h | h
      · exact ra z h
      · exact rb z h
  · rename_i f sz l
    split at h
    case h_2 => cases h
    cases hs : isSlT P xT
    · rw [hs] at h; cases h
    rw [hs] at h; injection h with h; subst h
    obtain ⟨e, he⟩ := isSlT_eq hs
    generalize hX : ρ x = vx at hx
    generalize hY : ρ y = vy at hy
    have hy' : vy = .slice none 0 0 := by
      generalize hn : AV.nilsl = n at hy
      cases hy <;> first | rfl | cases hn
    subst hy'
    cases hx with
    | sl0 h1 h2 => exact .same (run_exec_bin ho hX hY (eqGuard_plain trivial) (Lib.run_eql_slice_nil w xT e _ _ _ _ _ he)) (.nb fun _ => rfl)
    | sl g h1 => exact .same (run_exec_bin ho hX hY (eqGuard_plain trivial) (Lib.run_eql_slice_nil w xT e _ _ _ _ _ he)) (.nb fun h => by cases h)
  · cases h

def vun (op : UnOp) (x : AV) : Option (List Prop × AV) :=
  match op, x with
  | .neg, .int k n => some ([], .int k (k.wrap (0 - n)))
  | .xor, .int k n => some ([], .int k (ixor k (if k.signed then -1 else k.max) n))
  | .not, .bool b => some ([], .bool !b)
  | _, _ => none

theorem vun_sound {P : Program} {op : UnOp} {xT : TypeId} {x : Operand} {ρ : Operand → Value} {o : Oper} {w : World} {I : Nat → Prop} {T : Tbl} {X : AV} {r : List Prop × AV}
    (ho : o.op = .unOp op xT x) (hx : Rep w I T (ρ x) X) (h : vun op X = some r) : VRes P ρ o w I T r.2 := by
  unfold vun at h
  generalize hX : ρ x = vx at hx
  split at h <;> first | (injection h with h; subst h) | cases h
  · cases hx with
    | int wa => exact .same (by simp [execOp, ho, hX, Op.unary, Op.intArith]) (.int (wrap_wrap _ _))
  · cases hx with
    | int wa => exact .same (by simp [execOp, ho, hX, Op.unary, Op.intBits, ixor]) (.int (wrap_wrap _ _))
  · cases hx with
    | bool => exact .same (by simp [execOp, ho, hX, Op.unary]) .bool
end Go.Ab
