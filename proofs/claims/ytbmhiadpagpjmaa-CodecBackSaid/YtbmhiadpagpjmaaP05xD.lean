/- Printed: the typed Lean functions of the Go functions, or the proofs that the Go functions meet them. No conditions but those that the theorems name. -/
import Derived.Test.YtbmhiadpagpjmaaA30
namespace Go.Ab
open Go
set_option linter.unusedVariables false

def ci (u_1 : Int) : Option Int :=
  some (ixor .i64 (w_i64 (ishr .u64 u_1 (1 : Int))) (w_i64 (0 - (w_i64 (iand .u64 u_1 (1 : Int))))))


def ri (u_1 : Int) : Option Int :=
  (bif ((irem u_1 (2 : Int)) == (1 : Int)) then some (w_i64 ((w_i64 (0 - (w_i64 (iquo .u64 u_1 (2 : Int))))) - (1 : Int))) else
  some (w_i64 (iquo .u64 u_1 (2 : Int))))


def cn (n_1 : Int) : Option Int :=
  some (ixor .u64 (ishl .u64 (w_u64 n_1) (1 : Int)) (w_u64 (ishr .i64 n_1 (63 : Int))))


def rn (n_1 : Int) : Option Int :=
  (bif decide (n_1 < (0 : Int)) then some (w_u64 ((w_u64 ((2 : Int) * (w_u64 (w_i64 (0 - (w_i64 (n_1 + (1 : Int)))))))) + (1 : Int))) else
  some (w_u64 ((2 : Int) * (w_u64 n_1))))


def cInt_L1_body (F : Nat) (b_1 : List (Int)) (rec : Int → Int → Option (Unit ⊕ (Int × Int × Int))) (u_1 : Int) (v_1 : Int) : Option (Unit ⊕ (Int × Int × Int)) :=
  (bif decide (v_1 < (((b_1).length : Nat) : Int)) then (idxL b_1 v_1).bind fun x_1 =>
  (bif ((v_1 == (9 : Int)) && decide (x_1 > (1 : Int))) then some (.inr ((0 : Int), (0 : Int), (10 : Int))) else
  (need ((0 : Int) ≤ (w_i64 ((7 : Int) * v_1)))).bind fun _ =>
  (bif decide (x_1 ≥ (128 : Int)) then rec (ior .u64 u_1 (ishl .u64 (w_u64 (iand .u8 x_1 (127 : Int))) (w_i64 ((7 : Int) * v_1)))) (w_i64 (v_1 + (1 : Int))) else
  (bif ((x_1 == (0 : Int)) && decide (v_1 > (0 : Int))) then some (.inr ((0 : Int), (0 : Int), (10 : Int))) else
  (ci (ior .u64 u_1 (ishl .u64 (w_u64 (iand .u8 x_1 (127 : Int))) (w_i64 ((7 : Int) * v_1))))).bind fun r_1 =>
  some (.inr (r_1, w_i64 (v_1 + (1 : Int)), (0 : Int)))))) else
  some (.inl ()))

def cInt_L1 (F : Nat) (b_1 : List (Int)) : Nat → Int → Int → Option (Unit ⊕ (Int × Int × Int))
  | 0, _, _ => none
  | n + 1, u_1, v_1 => cInt_L1_body F b_1 (cInt_L1 F b_1 n) u_1 v_1

def cInt (F : Nat) (b_1 : List (Int)) : Option (Int × Int × Int) :=
  (cInt_L1 F b_1 F (0 : Int) (0 : Int)).bind fun (o_1 : Unit ⊕ (Int × Int × Int)) =>
  (match o_1 with
  | (.inl q_1) =>
  some ((0 : Int), (0 : Int), (8 : Int))
  | (.inr q_2) =>
  some q_2)


def rInt_L1_body (F : Nat) (b_1 : List (Int)) (rec : Int → Int → Int → Option (Unit ⊕ (Int × Int × Int))) (u_1 : Int) (unit_1 : Int) (i_1 : Int) : Option (Unit ⊕ (Int × Int × Int)) :=
  (bif decide (i_1 < (10 : Int)) then (bif decide (i_1 ≥ (((b_1).length : Nat) : Int)) then some (.inr ((0 : Int), (0 : Int), (8 : Int))) else
  (idxL b_1 i_1).bind fun x_1 =>
  (bif ((i_1 == (9 : Int)) && decide ((w_u64 x_1) > (1 : Int))) then some (.inr ((0 : Int), (0 : Int), (10 : Int))) else
  (bif (decide ((w_u64 x_1) < (128 : Int)) && (((w_u64 x_1) == (0 : Int)) && decide (i_1 > (0 : Int)))) then some (.inr ((0 : Int), (0 : Int), (10 : Int))) else
  (bif decide ((w_u64 x_1) < (128 : Int)) then (ri (w_u64 (u_1 + (w_u64 ((irem (w_u64 x_1) (128 : Int)) * unit_1))))).bind fun r_1 =>
  some (.inr (r_1, w_i64 (i_1 + (1 : Int)), (0 : Int))) else
  rec (w_u64 (u_1 + (w_u64 ((irem (w_u64 x_1) (128 : Int)) * unit_1)))) (w_u64 (unit_1 * (128 : Int))) (w_i64 (i_1 + (1 : Int))))))) else
  some (.inl ()))

def rInt_L1 (F : Nat) (b_1 : List (Int)) : Nat → Int → Int → Int → Option (Unit ⊕ (Int × Int × Int))
  | 0, _, _, _ => none
  | n + 1, u_1, unit_1, i_1 => rInt_L1_body F b_1 (rInt_L1 F b_1 n) u_1 unit_1 i_1

def rInt (F : Nat) (b_1 : List (Int)) : Option (Int × Int × Int) :=
  (rInt_L1 F b_1 F (0 : Int) (1 : Int) (0 : Int)).bind fun (o_1 : Unit ⊕ (Int × Int × Int)) =>
  (match o_1 with
  | (.inl q_1) =>
  some ((0 : Int), (0 : Int), (10 : Int))
  | (.inr q_2) =>
  some q_2)


def cText (F : Nat) (b_1 : List (Int)) (most_1 : Int) : Option ((List Int) × Int × Int) :=
  (cInt F b_1).bind fun r_1 =>
  (bif (r_1.2.2 != (0 : Int)) then some (([] : List Int), (0 : Int), r_1.2.2) else
  (bif decide (r_1.1 < (0 : Int)) then some (([] : List Int), (0 : Int), (10 : Int)) else
  (bif decide (r_1.1 > most_1) then some (([] : List Int), (0 : Int), (7 : Int)) else
  (bif decide (r_1.1 > (w_i64 ((((b_1).length : Nat) : Int) - r_1.2.1))) then some (([] : List Int), (0 : Int), (8 : Int)) else
  (need ((0 : Int) ≤ r_1.2.1 ∧ r_1.2.1 ≤ (w_i64 (r_1.2.1 + r_1.1)) ∧ (w_i64 (r_1.2.1 + r_1.1)) ≤ (((b_1).length : Nat) : Int))).bind fun _ =>
  some (sub b_1 r_1.2.1 (w_i64 (r_1.2.1 + r_1.1)), w_i64 (r_1.2.1 + r_1.1), (0 : Int))))))


def rText (F : Nat) (b_1 : List (Int)) (most_1 : Int) : Option ((List Int) × Int × Int) :=
  (rInt F b_1).bind fun r_1 =>
  (bif (r_1.2.2 != (0 : Int)) then some (([] : List Int), (0 : Int), r_1.2.2) else
  (bif decide (r_1.1 < (0 : Int)) then some (([] : List Int), (0 : Int), (10 : Int)) else
  (bif decide (r_1.1 > most_1) then some (([] : List Int), (0 : Int), (7 : Int)) else
  (bif decide (r_1.1 > (w_i64 ((((b_1).length : Nat) : Int) - r_1.2.1))) then some (([] : List Int), (0 : Int), (8 : Int)) else
  (need ((0 : Int) ≤ r_1.2.1 ∧ r_1.2.1 ≤ (w_i64 (r_1.2.1 + r_1.1)) ∧ (w_i64 (r_1.2.1 + r_1.1)) ≤ (((b_1).length : Nat) : Int))).bind fun _ =>
  some (sub b_1 r_1.2.1 (w_i64 (r_1.2.1 + r_1.1)), w_i64 (r_1.2.1 + r_1.1), (0 : Int))))))


def cSum_L2_body (F : Nat) (rec : Int → Int → Option Int) (x_3 : Int) (v_2 : Int) : Option Int :=
  (bif decide (v_2 < (8 : Int)) then (bif ((iand .u32 x_3 (1 : Int)) == (1 : Int)) then rec (ixor .u32 (ishr .u32 x_3 (1 : Int)) (3988292384 : Int)) (w_i64 (v_2 + (1 : Int))) else
  rec (ishr .u32 x_3 (1 : Int)) (w_i64 (v_2 + (1 : Int)))) else
  some x_3)

def cSum_L2 (F : Nat) : Nat → Int → Int → Option Int
  | 0, _, _ => none
  | n + 1, x_3, v_2 => cSum_L2_body F (cSum_L2 F n) x_3 v_2

def cSum_L1_body (F : Nat) (b_1 : List (Int)) (rec : Int → Int → Option Int) (x_1 : Int) (v_1 : Int) : Option Int :=
  (bif decide (v_1 < (((b_1).length : Nat) : Int)) then (idxL b_1 v_1).bind fun x_2 =>
  (cSum_L2 F F (ixor .u32 x_1 (w_u32 x_2)) (0 : Int)).bind fun (o_2 : Int) =>
  rec o_2 (w_i64 (v_1 + (1 : Int))) else
  some x_1)

def cSum_L1 (F : Nat) (b_1 : List (Int)) : Nat → Int → Int → Option Int
  | 0, _, _ => none
  | n + 1, x_1, v_1 => cSum_L1_body F b_1 (cSum_L1 F b_1 n) x_1 v_1

def cSum (F : Nat) (b_1 : List (Int)) : Option Int :=
  (cSum_L1 F b_1 F (4294967295 : Int) (0 : Int)).bind fun (o_1 : Int) =>
  some (w_i64 (ixor .u32 (4294967295 : Int) o_1))


def rSum_L2_body (F : Nat) (rec : Int → Int → Option Int) (x_3 : Int) (k_1 : Int) : Option Int :=
  (bif decide (k_1 < (8 : Int)) then (((bif ((irem x_3 (2 : Int)) == (1 : Int)) then some (ixor .u32 (iquo .u32 x_3 (2 : Int)) (3988292384 : Int)) else
  some (iquo .u32 x_3 (2 : Int))) : Option Int)).bind fun (o_3 : Int) =>
  rec o_3 (w_i64 (k_1 + (1 : Int))) else
  some x_3)

def rSum_L2 (F : Nat) : Nat → Int → Int → Option Int
  | 0, _, _ => none
  | n + 1, x_3, k_1 => rSum_L2_body F (rSum_L2 F n) x_3 k_1

def rSum_L1_body (F : Nat) (b_1 : List (Int)) (rec : Int → Int → Option Int) (x_1 : Int) (i_1 : Int) : Option Int :=
  (bif decide (i_1 < (((b_1).length : Nat) : Int)) then (idxL b_1 i_1).bind fun x_2 =>
  (rSum_L2 F F (ixor .u32 x_1 (w_u32 x_2)) (0 : Int)).bind fun (o_2 : Int) =>
  rec o_2 (w_i64 (i_1 + (1 : Int))) else
  some x_1)

def rSum_L1 (F : Nat) (b_1 : List (Int)) : Nat → Int → Int → Option Int
  | 0, _, _ => none
  | n + 1, x_1, i_1 => rSum_L1_body F b_1 (rSum_L1 F b_1 n) x_1 i_1

def rSum (F : Nat) (b_1 : List (Int)) : Option Int :=
  (rSum_L1 F b_1 F (4294967295 : Int) (0 : Int)).bind fun (o_1 : Int) =>
  some (w_i64 (ixor .u32 o_1 (4294967295 : Int)))


def cPutInt_L1_body (F : Nat) (rec : Int → Int → (List Int) → Option (Int × (List Int))) (size_1 : Int) (u_1 : Int) (row_1 : List Int) : Option (Int × (List Int)) :=
  (need ((0 : Int) ≤ size_1 ∧ size_1 < ((10 : Nat) : Int))).bind fun _ => ((row_1)[(size_1).toNat]?).bind fun x_1 =>
  (bif decide (u_1 < (128 : Int)) then some (w_i64 (size_1 + (1 : Int)), (row_1).set ((size_1).toNat) (w_u8 (iand .u64 u_1 (127 : Int)))) else
  (need ((0 : Int) ≤ (w_i64 ((w_i64 (size_1 + (1 : Int))) - (1 : Int))) ∧ (w_i64 ((w_i64 (size_1 + (1 : Int))) - (1 : Int))) < ((10 : Nat) : Int))).bind fun _ => (((row_1).set ((size_1).toNat) (w_u8 (iand .u64 u_1 (127 : Int))))[(w_i64 ((w_i64 (size_1 + (1 : Int))) - (1 : Int))).toNat]?).bind fun x_2 => (need ((0 : Int) ≤ (w_i64 ((w_i64 (size_1 + (1 : Int))) - (1 : Int))) ∧ (w_i64 ((w_i64 (size_1 + (1 : Int))) - (1 : Int))) < ((10 : Nat) : Int))).bind fun _ => (((row_1).set ((size_1).toNat) (w_u8 (iand .u64 u_1 (127 : Int))))[(w_i64 ((w_i64 (size_1 + (1 : Int))) - (1 : Int))).toNat]?).bind fun x_3 =>
  rec (w_i64 (size_1 + (1 : Int))) (ishr .u64 u_1 (7 : Int)) (((row_1).set ((size_1).toNat) (w_u8 (iand .u64 u_1 (127 : Int)))).set ((w_i64 ((w_i64 (size_1 + (1 : Int))) - (1 : Int))).toNat) (ior .u8 x_2 (128 : Int))))

def cPutInt_L1 (F : Nat) : Nat → Int → Int → (List Int) → Option (Int × (List Int))
  | 0, _, _, _ => none
  | n + 1, size_1, u_1, row_1 => cPutInt_L1_body F (cPutInt_L1 F n) size_1 u_1 row_1

def cPutInt (F : Nat) (b_1 : List (Int)) (n_1 : Int) : Option (List (Int)) :=
  (cn n_1).bind fun r_1 =>
  (cPutInt_L1 F F (0 : Int) r_1 (List.replicate 10 (0 : Int))).bind fun (o_1 : (Int × (List Int))) =>
  (need ((0 : Int) ≤ o_1.1 ∧ o_1.1 ≤ ((10 : Nat) : Int) ∧ 10 ≤ (o_1.2).length)).bind fun _ => (need (0 ≤ ((o_1.1).toNat) ∧ ((o_1.1).toNat) ≤ (o_1.2).length)).bind fun _ => (need (((sub b_1 (0 : Int) (((b_1).length : Nat) : Int)).length + (((o_1.2).take ((o_1.1).toNat)).drop 0).length) * 1 ≤ 140737488355328)).bind fun _ =>
  some ((sub b_1 (0 : Int) (((b_1).length : Nat) : Int)) ++ (((o_1.2).take ((o_1.1).toNat)).drop 0))


def rPutInt_L1_body (F : Nat) (rec : Int → (List Int) → Option (Int × (List Int))) (u_1 : Int) (row_1 : List Int) : Option (Int × (List Int)) :=
  (bif decide (u_1 ≥ (128 : Int)) then (need (((row_1).length + (([w_u8 ((w_u8 (irem u_1 (128 : Int))) + (128 : Int))] : List Int)).length) * 1 ≤ 140737488355328)).bind fun _ =>
  rec (iquo .u64 u_1 (128 : Int)) (row_1 ++ ([w_u8 ((w_u8 (irem u_1 (128 : Int))) + (128 : Int))] : List Int)) else
  some (u_1, row_1))

def rPutInt_L1 (F : Nat) : Nat → Int → (List Int) → Option (Int × (List Int))
  | 0, _, _ => none
  | n + 1, u_1, row_1 => rPutInt_L1_body F (rPutInt_L1 F n) u_1 row_1

def rPutInt (F : Nat) (b_1 : List (Int)) (n_1 : Int) : Option (List (Int)) :=
  (need (((([] : List Int)).length + (b_1).length) * 1 ≤ 140737488355328)).bind fun _ =>
  (rn n_1).bind fun r_1 =>
  (rPutInt_L1 F F r_1 ([] ++ b_1)).bind fun (o_1 : (Int × (List Int))) =>
  (need (((o_1.2).length + (([w_u8 o_1.1] : List Int)).length) * 1 ≤ 140737488355328)).bind fun _ =>
  some (o_1.2 ++ ([w_u8 o_1.1] : List Int))


def cPutText (F : Nat) (b_1 : List (Int)) (s_1 : List Int) : Option (List (Int)) :=
  (cPutInt F b_1 (((s_1).length : Nat) : Int)).bind fun r_1 =>
  (need ((0 : Int) ≤ (w_i64 ((((r_1).length : Nat) : Int) + (((s_1).length : Nat) : Int))) ∧ ((w_i64 ((((r_1).length : Nat) : Int) + (((s_1).length : Nat) : Int))).toNat) * 1 ≤ 281474976710656)).bind fun _ =>
  (need (0 ≤ ((w_i64 ((((r_1).length : Nat) : Int) + (((s_1).length : Nat) : Int))).toNat) ∧ ((w_i64 ((((r_1).length : Nat) : Int) + (((s_1).length : Nat) : Int))).toNat) ≤ ((List.replicate ((w_i64 ((((r_1).length : Nat) : Int) + (((s_1).length : Nat) : Int))).toNat) (0 : Int))).length)).bind fun _ =>
  (need ((((r_1).length : Nat) : Int) ≤ (((w_i64 ((((r_1).length : Nat) : Int) + (((s_1).length : Nat) : Int))).toNat : Nat) : Int))).bind fun _ => (need (((r_1).length) ≤ ((w_i64 ((((r_1).length : Nat) : Int) + (((s_1).length : Nat) : Int))).toNat) ∧ ((w_i64 ((((r_1).length : Nat) : Int) + (((s_1).length : Nat) : Int))).toNat) ≤ ((((List.replicate ((w_i64 ((((r_1).length : Nat) : Int) + (((s_1).length : Nat) : Int))).toNat) (0 : Int))).take 0 ++ (r_1).take (min (r_1).length ((w_i64 ((((r_1).length : Nat) : Int) + (((s_1).length : Nat) : Int))).toNat - 0)) ++ ((List.replicate ((w_i64 ((((r_1).length : Nat) : Int) + (((s_1).length : Nat) : Int))).toNat) (0 : Int))).drop (0 + (min (r_1).length ((w_i64 ((((r_1).length : Nat) : Int) + (((s_1).length : Nat) : Int))).toNat - 0))))).length)).bind fun _ =>
  some (((((List.replicate ((w_i64 ((((r_1).length : Nat) : Int) + (((s_1).length : Nat) : Int))).toNat) (0 : Int))).take 0 ++ (r_1).take (min (r_1).length ((w_i64 ((((r_1).length : Nat) : Int) + (((s_1).length : Nat) : Int))).toNat - 0)) ++ ((List.replicate ((w_i64 ((((r_1).length : Nat) : Int) + (((s_1).length : Nat) : Int))).toNat) (0 : Int))).drop (0 + (min (r_1).length ((w_i64 ((((r_1).length : Nat) : Int) + (((s_1).length : Nat) : Int))).toNat - 0))))).take ((r_1).length) ++ (s_1).take (min (s_1).length ((w_i64 ((((r_1).length : Nat) : Int) + (((s_1).length : Nat) : Int))).toNat - (r_1).length)) ++ ((((List.replicate ((w_i64 ((((r_1).length : Nat) : Int) + (((s_1).length : Nat) : Int))).toNat) (0 : Int))).take 0 ++ (r_1).take (min (r_1).length ((w_i64 ((((r_1).length : Nat) : Int) + (((s_1).length : Nat) : Int))).toNat - 0)) ++ ((List.replicate ((w_i64 ((((r_1).length : Nat) : Int) + (((s_1).length : Nat) : Int))).toNat) (0 : Int))).drop (0 + (min (r_1).length ((w_i64 ((((r_1).length : Nat) : Int) + (((s_1).length : Nat) : Int))).toNat - 0))))).drop ((r_1).length + (min (s_1).length ((w_i64 ((((r_1).length : Nat) : Int) + (((s_1).length : Nat) : Int))).toNat - (r_1).length))))


def rPutText_L1_body (F : Nat) (s_1 : List Int) (rec : Int → (List Int) → Option (List Int)) (i_1 : Int) (row_1 : List Int) : Option (List Int) :=
  (bif decide (i_1 < (((s_1).length : Nat) : Int)) then (idxL s_1 i_1).bind fun c_1 => (need (((row_1).length + (([c_1] : List Int)).length) * 1 ≤ 140737488355328)).bind fun _ =>
  rec (w_i64 (i_1 + (1 : Int))) (row_1 ++ ([c_1] : List Int)) else
  some row_1)

def rPutText_L1 (F : Nat) (s_1 : List Int) : Nat → Int → (List Int) → Option (List Int)
  | 0, _, _ => none
  | n + 1, i_1, row_1 => rPutText_L1_body F s_1 (rPutText_L1 F s_1 n) i_1 row_1

def rPutText (F : Nat) (b_1 : List (Int)) (s_1 : List Int) : Option (List (Int)) :=
  (rPutInt F b_1 (((s_1).length : Nat) : Int)).bind fun r_1 =>
  (rPutText_L1 F s_1 F (0 : Int) r_1).bind fun (o_1 : (List Int)) =>
  some o_1


def lives (F : Nat) : Option Bool :=
  (cInt F ([(216 : Int), (4 : Int), (9 : Int)] : List Int)).bind fun r_1 =>
  (cText F ([(4 : Int), (97 : Int), (98 : Int), (7 : Int)] : List Int) (2 : Int)).bind fun r_2 =>
  (((cPutInt F [] (300 : Int)).bind fun r_3 => bif (r_3 == ([216, 4] : List Int)) then ( bif (r_1.1 == (300 : Int)) then ( bif (r_1.2.1 == (2 : Int)) then ( bif (r_1.2.2 == (0 : Int)) then ( bif (r_2.1 == ([97, 98] : List Int)) then ( bif (r_2.2.1 == (3 : Int)) then ( bif (r_2.2.2 == (0 : Int)) then ((cSum F ([(49 : Int), (50 : Int), (51 : Int), (52 : Int), (53 : Int), (54 : Int), (55 : Int), (56 : Int), (57 : Int)] : List Int)).bind fun r_4 => some (r_4 == (3421780262 : Int))) else ( some false)) else ( some false)) else ( some false)) else ( some false)) else ( some false)) else ( some false)) else ( some false))).bind fun (p_1 : Bool) =>
  some p_1


def lReads (F : Nat) (a_1 : List (Int)) (a_2 : Int) : Option Bool :=
  (bif decide ((((a_1).length : Nat) : Int) > (300 : Int)) then (lives F).bind fun r_1 =>
  some r_1 else
  (cInt F a_1).bind fun r_2 =>
  (rInt F a_1).bind fun r_3 =>
  (cText F a_1 a_2).bind fun r_4 =>
  (rText F a_1 a_2).bind fun r_5 =>
  (( bif (r_2.1 == r_3.1) then ( bif (r_2.2.1 == r_3.2.1) then ( bif (r_2.2.2 == r_3.2.2) then ( bif (r_4.1 == r_5.1) then ( bif (r_4.2.1 == r_5.2.1) then ( bif (r_4.2.2 == r_5.2.2) then ((lives F).bind fun r_6 => some r_6) else ( some false)) else ( some false)) else ( some false)) else ( some false)) else ( some false)) else ( some false))).bind fun (p_1 : Bool) =>
  some p_1)


def lSums (F : Nat) (b_1 : List (Int)) : Option Bool :=
  (bif decide ((((b_1).length : Nat) : Int) > (600 : Int)) then (lives F).bind fun r_1 =>
  some r_1 else
  (((cSum F b_1).bind fun r_2 => (rSum F b_1).bind fun r_3 => bif (r_2 == r_3) then ( bif (b_1 == b_1) then ((lives F).bind fun r_4 => some r_4) else ( some false)) else ( some false))).bind fun (p_1 : Bool) =>
  some p_1)


structure Arr4_Int where
  c0 : Int
  c1 : Int
  c2 : Int
  c3 : Int
  deriving DecidableEq, Inhabited
def e_Arr4_Int (s : Arr4_Int) : AV := .agg [.int .u8 s.c0, .int .u8 s.c1, .int .u8 s.c2, .int .u8 s.c3]

def lChanges_L1_body (F : Nat) (a_1 : List (Int)) (a_2 : Int) (a_3 : Arr4_Int) (rec : Bool → Int → (List Int) → Option (Bool × (List Int))) (v_1 : Bool) (v_2 : Int) (row_1 : List Int) : Option (Bool × (List Int)) :=
  (bif (decide (v_2 < (4 : Int)) && decide ((w_i64 (a_2 + v_2)) < (((a_1).length : Nat) : Int))) then (idxL a_1 (w_i64 (a_2 + v_2))).bind fun x_1 => (need ((0 : Int) ≤ v_2 ∧ v_2 < ((4 : Nat) : Int))).bind fun _ => ((([a_3.c0, a_3.c1, a_3.c2, a_3.c3] : List Int))[(v_2).toNat]?).bind fun x_2 => (idxL row_1 (w_i64 (a_2 + v_2))).bind fun x_3 =>
  (( bif v_1 then ( some true) else ((need ((0 : Int) ≤ v_2 ∧ v_2 < ((4 : Nat) : Int))).bind fun _ => ((([a_3.c0, a_3.c1, a_3.c2, a_3.c3] : List Int))[(v_2).toNat]?).bind fun x_4 => some (x_4 != (0 : Int))))).bind fun (p_1 : Bool) =>
  rec p_1 (w_i64 (v_2 + (1 : Int))) ((row_1).set ((w_i64 (a_2 + v_2)).toNat) (ixor .u8 x_1 x_2)) else
  some (v_1, row_1))

def lChanges_L1 (F : Nat) (a_1 : List (Int)) (a_2 : Int) (a_3 : Arr4_Int) : Nat → Bool → Int → (List Int) → Option (Bool × (List Int))
  | 0, _, _, _ => none
  | n + 1, v_1, v_2, row_1 => lChanges_L1_body F a_1 a_2 a_3 (lChanges_L1 F a_1 a_2 a_3 n) v_1 v_2 row_1

def lChanges (F : Nat) (a_1 : List (Int)) (a_2 : Int) (a_3 : Arr4_Int) : Option Bool :=
  (bif (decide ((((a_1).length : Nat) : Int) > (300 : Int)) || (decide (a_2 < (0 : Int)) || decide (a_2 ≥ (((a_1).length : Nat) : Int)))) then (lives F).bind fun r_1 =>
  some r_1 else
  (need (((([] : List Int)).length + (a_1).length) * 1 ≤ 140737488355328)).bind fun _ =>
  (lChanges_L1 F a_1 a_2 a_3 F false (0 : Int) ([] ++ a_1)).bind fun (o_1 : (Bool × (List Int))) =>
  (cSum F a_1).bind fun r_2 => (cSum F o_1.2).bind fun r_3 =>
  (( bif ((r_2 != r_3) == o_1.1) then ( bif decide (r_2 ≥ (0 : Int)) then ( bif decide (r_2 < (4294967296 : Int)) then ((lives F).bind fun r_4 => some r_4) else ( some false)) else ( some false)) else ( some false))).bind fun (p_2 : Bool) =>
  some p_2)


def lLinear_L1_body (F : Nat) (a_1 : List (Int)) (a_2 : List (Int)) (a_3 : List (Int)) (rec : Int → (List Int) → Option (List Int)) (v_1 : Int) (row_1 : List Int) : Option (List Int) :=
  (bif decide (v_1 < (((a_1).length : Nat) : Int)) then (idxL a_1 v_1).bind fun x_1 => (idxL a_2 v_1).bind fun x_2 => (idxL a_3 v_1).bind fun x_3 => (idxL row_1 v_1).bind fun x_4 =>
  rec (w_i64 (v_1 + (1 : Int))) ((row_1).set ((v_1).toNat) (ixor .u8 (ixor .u8 x_1 x_2) x_3)) else
  some row_1)

def lLinear_L1 (F : Nat) (a_1 : List (Int)) (a_2 : List (Int)) (a_3 : List (Int)) : Nat → Int → (List Int) → Option (List Int)
  | 0, _, _ => none
  | n + 1, v_1, row_1 => lLinear_L1_body F a_1 a_2 a_3 (lLinear_L1 F a_1 a_2 a_3 n) v_1 row_1

def lLinear (F : Nat) (a_1 : List (Int)) (a_2 : List (Int)) (a_3 : List (Int)) : Option Bool :=
  (bif (decide ((((a_1).length : Nat) : Int) > (300 : Int)) || (decide ((((a_2).length : Nat) : Int) < (((a_1).length : Nat) : Int)) || decide ((((a_3).length : Nat) : Int) < (((a_1).length : Nat) : Int)))) then (lives F).bind fun r_1 =>
  some r_1 else
  (need (((([] : List Int)).length + (a_1).length) * 1 ≤ 140737488355328)).bind fun _ =>
  (lLinear_L1 F a_1 a_2 a_3 F (0 : Int) ([] ++ a_1)).bind fun (o_1 : (List Int)) =>
  (((cSum F o_1).bind fun r_2 => (cSum F a_1).bind fun r_3 => (need ((((a_1).length : Nat) : Int) ≤ (((a_2).length : Nat) : Int))).bind fun _ => (cSum F (sub a_2 (0 : Int) (((a_1).length : Nat) : Int))).bind fun r_4 => (need ((((a_1).length : Nat) : Int) ≤ (((a_3).length : Nat) : Int))).bind fun _ => (cSum F (sub a_3 (0 : Int) (((a_1).length : Nat) : Int))).bind fun r_5 => bif (r_2 == (ixor .i64 (ixor .i64 r_3 r_4) r_5)) then ((lives F).bind fun r_6 => some r_6) else ( some false))).bind fun (p_1 : Bool) =>
  some p_1)


def lWrites (F : Nat) (b_1 : List (Int)) (n_1 : Int) (s_1 : List Int) : Option Bool :=
  (bif (decide ((((b_1).length : Nat) : Int) > (300 : Int)) || decide ((((s_1).length : Nat) : Int) > (300 : Int))) then (lives F).bind fun r_1 =>
  some r_1 else
  (cPutInt F b_1 n_1).bind fun r_2 => (cPutText F b_1 s_1).bind fun r_3 =>
  (((rPutInt F b_1 n_1).bind fun r_4 => bif (r_2 == r_4) then ((rPutText F b_1 s_1).bind fun r_5 => bif (r_3 == r_5) then ( bif (b_1 == b_1) then ((lives F).bind fun r_6 => some r_6) else ( some false)) else ( some false)) else ( some false))).bind fun (p_1 : Bool) =>
  some p_1)


def lBack (F : Nat) (a_1 : Int) (a_2 : List Int) (a_3 : List (Int)) (a_4 : Int) : Option Bool :=
  (bif (decide ((((a_2).length : Nat) : Int) > (300 : Int)) || decide ((((a_3).length : Nat) : Int) > (300 : Int))) then (lives F).bind fun r_1 =>
  some r_1 else
  (cPutInt F [] a_1).bind fun r_2 =>
  (need (((([] : List Int)).length + (r_2).length) * 1 ≤ 140737488355328)).bind fun _ => (need (((([] ++ r_2)).length + (a_3).length) * 1 ≤ 140737488355328)).bind fun _ => (cInt F (([] ++ r_2) ++ a_3)).bind fun r_3 =>
  (bif ((r_3.1 != a_1) || ((r_3.2.1 != (((r_2).length : Nat) : Int)) || ((r_3.2.2 != (0 : Int)) || (decide (r_3.2.1 < (1 : Int)) || decide (r_3.2.1 > (10 : Int)))))) then some false else
  (cPutText F [] a_2).bind fun r_4 =>
  (need (((([] : List Int)).length + (r_4).length) * 1 ≤ 140737488355328)).bind fun _ => (need (((([] ++ r_4)).length + (a_3).length) * 1 ≤ 140737488355328)).bind fun _ => (cText F (([] ++ r_4) ++ a_3) a_4).bind fun r_5 =>
  (bif decide ((((a_2).length : Nat) : Int) > a_4) then (( bif (r_5.1 == ([] : List Int)) then ( bif (r_5.2.1 == (0 : Int)) then ( bif (r_5.2.2 == (7 : Int)) then ((lives F).bind fun r_6 => some r_6) else ( some false)) else ( some false)) else ( some false))).bind fun (p_1 : Bool) =>
  some p_1 else
  (( bif (r_5.1 == a_2) then ( bif (r_5.2.1 == (((r_4).length : Nat) : Int)) then ( bif (r_5.2.2 == (0 : Int)) then ((lives F).bind fun r_7 => some r_7) else ( some false)) else ( some false)) else ( some false))).bind fun (p_2 : Bool) =>
  some p_2)))


def lUnique (F : Nat) (a_1 : List (Int)) (a_2 : Int) : Option Bool :=
  (bif decide ((((a_1).length : Nat) : Int) > (300 : Int)) then (lives F).bind fun r_1 =>
  some r_1 else
  (cInt F a_1).bind fun r_2 =>
  (( bif (r_2.2.2 == (0 : Int)) then ( bif decide (r_2.2.1 < (1 : Int)) then ( some true) else ( bif decide (r_2.2.1 > (((a_1).length : Nat) : Int)) then ( some true) else ((cPutInt F [] r_2.1).bind fun r_3 => (need ((0 : Int) ≤ r_2.2.1 ∧ r_2.2.1 ≤ (((a_1).length : Nat) : Int))).bind fun _ => some !(r_3 == (sub a_1 (0 : Int) r_2.2.1))))) else ( some false))).bind fun (p_1 : Bool) =>
  (bif p_1 then some false else
  (cText F a_1 a_2).bind fun r_4 =>
  (( bif (r_4.2.2 == (0 : Int)) then ( bif decide (r_4.2.1 < (1 : Int)) then ( some true) else ( bif decide (r_4.2.1 > (((a_1).length : Nat) : Int)) then ( some true) else ((cPutText F [] r_4.1).bind fun r_5 => (need ((0 : Int) ≤ r_4.2.1 ∧ r_4.2.1 ≤ (((a_1).length : Nat) : Int))).bind fun _ => some !(r_5 == (sub a_1 (0 : Int) r_4.2.1))))) else ( some false))).bind fun (p_2 : Bool) =>
  (bif p_2 then some false else
  (lives F).bind fun r_6 =>
  some r_6)))


def lShort (F : Nat) (a_1 : Int) (a_2 : List Int) (a_3 : Int) : Option Bool :=
  (bif decide ((((a_2).length : Nat) : Int) > (300 : Int)) then (lives F).bind fun r_1 =>
  some r_1 else
  (cPutInt F [] a_1).bind fun r_2 => (cPutText F [] a_2).bind fun r_3 =>
  (((bif (decide (a_3 ≥ (0 : Int)) && decide (a_3 < (((r_2).length : Nat) : Int))) then (need ((0 : Int) ≤ a_3 ∧ a_3 ≤ (((r_2).length : Nat) : Int))).bind fun _ => (cInt F (sub r_2 (0 : Int) a_3)).bind fun r_4 =>
  (bif ((r_4.2.1 != (0 : Int)) || (r_4.2.2 != (8 : Int))) then some (.inr false) else
  some (.inl ())) else
  some (.inl ())) : Option (Unit ⊕ Bool))).bind fun (o_1 : Unit ⊕ Bool) =>
  (match o_1 with
  | (.inl q_1) =>
  (((bif (decide (a_3 ≥ (0 : Int)) && decide (a_3 < (((r_3).length : Nat) : Int))) then (need ((0 : Int) ≤ a_3 ∧ a_3 ≤ (((r_3).length : Nat) : Int))).bind fun _ => (need (0 ≤ ((a_3).toNat) ∧ ((a_3).toNat) ≤ (r_3).length)).bind fun _ => (cText F (((r_3).take ((a_3).toNat)).drop 0) (300 : Int)).bind fun r_5 =>
  (bif ((r_5.2.1 != (0 : Int)) || (r_5.2.2 != (8 : Int))) then some (.inr false) else
  some (.inl ())) else
  some (.inl ())) : Option (Unit ⊕ Bool))).bind fun (o_2 : Unit ⊕ Bool) =>
  (match o_2 with
  | (.inl q_3) =>
  (( bif decide ((((r_2).length : Nat) : Int) > (0 : Int)) then ( bif decide ((((r_3).length : Nat) : Int) > (((a_2).length : Nat) : Int)) then ((lives F).bind fun r_6 => some r_6) else ( some false)) else ( some false))).bind fun (p_1 : Bool) =>
  some p_1
  | (.inr q_4) =>
  some q_4)
  | (.inr q_2) =>
  some q_2))


end Go.Ab
