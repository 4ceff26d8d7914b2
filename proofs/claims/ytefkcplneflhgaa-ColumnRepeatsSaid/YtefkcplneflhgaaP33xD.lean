/- Printed: the typed Lean functions of the Go functions, or the proofs that the Go functions meet them. No conditions but those that the theorems name. -/
import Derived.Test.YtefkcplneflhgaaA37
import Derived.Test.YtefkcplneflhgaaA42
namespace Go.Ab
open Go
set_option linter.unusedVariables false

structure T_api_Value where
  Kind : Int
  N : Int
  S : List Int
  deriving DecidableEq, Inhabited
def v_T_api_Value (s : T_api_Value) : List AV := [.int .i64 s.Kind, .int .i64 s.N, .str s.S]
def e_T_api_Value (s : T_api_Value) : AV := .agg (v_T_api_Value s)

def num_In (n_1 : Int) : Option Bool :=
  some (decide (n_1 ≥ (-1000000000000000 : Int)) && decide (n_1 ≤ (1000000000000000 : Int)))


def column_Value (k_1 : Int) (a_1 : T_api_Value) : Option Int :=
  (bif ((a_1.Kind != (0 : Int)) && ((a_1.Kind != k_1) || !((k_1 == (1 : Int)) || ((k_1 == (2 : Int)) || (k_1 == (3 : Int)))))) then some (14 : Int) else
  (((bif ((a_1.Kind == (1 : Int)) && ((a_1.N != (0 : Int)) && (a_1.N != (1 : Int)))) then some ((a_1.Kind == (1 : Int)) && ((a_1.N != (0 : Int)) && (a_1.N != (1 : Int)))) else
  (( bif (a_1.Kind == (2 : Int)) then ((num_In a_1.N).bind fun r_1 => some (!r_1)) else ( some false))).bind fun (p_1 : Bool) =>
  some p_1) : Option Bool)).bind fun (o_1 : Bool) =>
  (bif o_1 then some (2 : Int) else
  (bif ((a_1.Kind == (3 : Int)) && decide ((((a_1.S).length : Nat) : Int) > (200 : Int))) then some (7 : Int) else
  (bif ((a_1.Kind != (3 : Int)) && !(a_1.S == ([] : List Int))) then some (1 : Int) else
  (bif (bif (a_1.Kind == (0 : Int)) then (a_1.N != (0 : Int)) else ((a_1.Kind == (3 : Int)) && (a_1.N != (0 : Int)))) then some (1 : Int) else
  some (0 : Int))))))


def R01_In (n_1 : Int) : Option Bool :=
  some (decide (n_1 ≥ (-1000000000000000 : Int)) && decide (n_1 ≤ (1000000000000000 : Int)))


def R33_Value (k_1 : Int) (a_1 : T_api_Value) : Option Int :=
  (bif ((a_1.Kind != (0 : Int)) && ((a_1.Kind != k_1) || (decide (k_1 < (1 : Int)) || decide (k_1 > (3 : Int))))) then some (14 : Int) else
  (( bif (a_1.Kind == (1 : Int)) then ( bif decide (a_1.N < (0 : Int)) then ( some true) else ( bif decide (a_1.N > (1 : Int)) then ( some true) else ( bif (a_1.Kind == (2 : Int)) then ((R01_In a_1.N).bind fun r_1 => some (!r_1)) else ( some false)))) else ( bif (a_1.Kind == (2 : Int)) then ((R01_In a_1.N).bind fun r_1 => some (!r_1)) else ( some false)))).bind fun (p_1 : Bool) =>
  (bif p_1 then some (2 : Int) else
  (bif ((a_1.Kind == (3 : Int)) && decide ((((a_1.S).length : Nat) : Int) > (200 : Int))) then some (7 : Int) else
  (bif (bif (a_1.Kind != (3 : Int)) then (!(a_1.S == ([] : List Int)) || (bif (a_1.Kind == (0 : Int)) then (a_1.N != (0 : Int)) else ((a_1.Kind == (3 : Int)) && (a_1.N != (0 : Int))))) else (bif (a_1.Kind == (0 : Int)) then (a_1.N != (0 : Int)) else ((a_1.Kind == (3 : Int)) && (a_1.N != (0 : Int))))) then some (1 : Int) else
  some (0 : Int)))))


def L33_num (n_1 : Int) : Option T_api_Value :=
  some (⟨(2 : Int), n_1, ([] : List Int)⟩ : T_api_Value)


def column_known (k_1 : Int) : Option Int :=
  (bif ((k_1 != (1 : Int)) && ((k_1 != (2 : Int)) && (k_1 != (3 : Int)))) then some (1 : Int) else
  some (0 : Int))


structure T_api_Packed where
  Type_ : Int
  N : Int
  Bytes : List (Int)
  deriving DecidableEq, Inhabited
def v_T_api_Packed (s : T_api_Packed) : List AV := [.int .i64 s.Type_, .int .i64 s.N, .sl false 1 (List.map (AV.int .u8) s.Bytes)]
def e_T_api_Packed (s : T_api_Packed) : AV := .agg (v_T_api_Packed s)

def codec_number (n_1 : Int) : Option Int :=
  some (ixor .u64 (ishl .u64 (w_u64 n_1) (1 : Int)) (w_u64 (ishr .i64 n_1 (63 : Int))))


def codec_PutInt_L1_body (F : Nat) (rec : Int → Int → (List Int) → Option (Int × (List Int))) (size_1 : Int) (u_1 : Int) (row_1 : List Int) : Option (Int × (List Int)) :=
  (need ((0 : Int) ≤ size_1 ∧ size_1 < ((10 : Nat) : Int))).bind fun _ => ((row_1)[(size_1).toNat]?).bind fun x_1 =>
  (bif decide (u_1 < (128 : Int)) then some (w_i64 (size_1 + (1 : Int)), (row_1).set ((size_1).toNat) (w_u8 (iand .u64 u_1 (127 : Int)))) else
  (need ((0 : Int) ≤ (w_i64 ((w_i64 (size_1 + (1 : Int))) - (1 : Int))) ∧ (w_i64 ((w_i64 (size_1 + (1 : Int))) - (1 : Int))) < ((10 : Nat) : Int))).bind fun _ => (((row_1).set ((size_1).toNat) (w_u8 (iand .u64 u_1 (127 : Int))))[(w_i64 ((w_i64 (size_1 + (1 : Int))) - (1 : Int))).toNat]?).bind fun x_2 => (need ((0 : Int) ≤ (w_i64 ((w_i64 (size_1 + (1 : Int))) - (1 : Int))) ∧ (w_i64 ((w_i64 (size_1 + (1 : Int))) - (1 : Int))) < ((10 : Nat) : Int))).bind fun _ => (((row_1).set ((size_1).toNat) (w_u8 (iand .u64 u_1 (127 : Int))))[(w_i64 ((w_i64 (size_1 + (1 : Int))) - (1 : Int))).toNat]?).bind fun x_3 =>
  rec (w_i64 (size_1 + (1 : Int))) (ishr .u64 u_1 (7 : Int)) (((row_1).set ((size_1).toNat) (w_u8 (iand .u64 u_1 (127 : Int)))).set ((w_i64 ((w_i64 (size_1 + (1 : Int))) - (1 : Int))).toNat) (ior .u8 x_2 (128 : Int))))

def codec_PutInt_L1 (F : Nat) : Nat → Int → Int → (List Int) → Option (Int × (List Int))
  | 0, _, _, _ => none
  | n + 1, size_1, u_1, row_1 => codec_PutInt_L1_body F (codec_PutInt_L1 F n) size_1 u_1 row_1

def codec_PutInt (F : Nat) (b_1 : List (Int)) (n_1 : Int) : Option (List (Int)) :=
  (codec_number n_1).bind fun r_1 =>
  (codec_PutInt_L1 F F (0 : Int) r_1 (List.replicate 10 (0 : Int))).bind fun (o_1 : (Int × (List Int))) =>
  (need ((0 : Int) ≤ o_1.1 ∧ o_1.1 ≤ ((10 : Nat) : Int) ∧ 10 ≤ (o_1.2).length)).bind fun _ => (need (0 ≤ ((o_1.1).toNat) ∧ ((o_1.1).toNat) ≤ (o_1.2).length)).bind fun _ => (need (((sub b_1 (0 : Int) (((b_1).length : Nat) : Int)).length + (((o_1.2).take ((o_1.1).toNat)).drop 0).length) * 1 ≤ 140737488355328)).bind fun _ => (need (0 < (((o_1.2).take ((o_1.1).toNat)).drop 0).length ∨ (sub b_1 (0 : Int) (((b_1).length : Nat) : Int)).length = 0)).bind fun _ =>
  some ((sub b_1 (0 : Int) (((b_1).length : Nat) : Int)) ++ (((o_1.2).take ((o_1.1).toNat)).drop 0))


def codec_PutText (F : Nat) (b_1 : List (Int)) (s_1 : List Int) : Option (List (Int)) :=
  (codec_PutInt F b_1 (((s_1).length : Nat) : Int)).bind fun r_1 =>
  (need ((0 : Int) ≤ (w_i64 ((((r_1).length : Nat) : Int) + (((s_1).length : Nat) : Int))) ∧ ((w_i64 ((((r_1).length : Nat) : Int) + (((s_1).length : Nat) : Int))).toNat) * 1 ≤ 281474976710656)).bind fun _ =>
  (need (0 ≤ ((w_i64 ((((r_1).length : Nat) : Int) + (((s_1).length : Nat) : Int))).toNat) ∧ ((w_i64 ((((r_1).length : Nat) : Int) + (((s_1).length : Nat) : Int))).toNat) ≤ ((List.replicate ((w_i64 ((((r_1).length : Nat) : Int) + (((s_1).length : Nat) : Int))).toNat) (0 : Int))).length)).bind fun _ =>
  (need ((((r_1).length : Nat) : Int) ≤ (((w_i64 ((((r_1).length : Nat) : Int) + (((s_1).length : Nat) : Int))).toNat : Nat) : Int))).bind fun _ => (need (((r_1).length) ≤ ((w_i64 ((((r_1).length : Nat) : Int) + (((s_1).length : Nat) : Int))).toNat) ∧ ((w_i64 ((((r_1).length : Nat) : Int) + (((s_1).length : Nat) : Int))).toNat) ≤ ((cpy (List.replicate ((w_i64 ((((r_1).length : Nat) : Int) + (((s_1).length : Nat) : Int))).toNat) (0 : Int)) 0 ((w_i64 ((((r_1).length : Nat) : Int) + (((s_1).length : Nat) : Int))).toNat) r_1)).length)).bind fun _ =>
  some (cpy (cpy (List.replicate ((w_i64 ((((r_1).length : Nat) : Int) + (((s_1).length : Nat) : Int))).toNat) (0 : Int)) 0 ((w_i64 ((((r_1).length : Nat) : Int) + (((s_1).length : Nat) : Int))).toNat) r_1) ((r_1).length) ((w_i64 ((((r_1).length : Nat) : Int) + (((s_1).length : Nat) : Int))).toNat) s_1)


def column_put (F : Nat) (b_1 : List (Int)) (a_1 : T_api_Value) : Option (List (Int)) :=
  (need (((b_1).length + (([w_u8 a_1.Kind] : List Int)).length) * 1 ≤ 140737488355328)).bind fun _ =>
  (((bif (a_1.Kind == (1 : Int)) then some (a_1.Kind == (1 : Int)) else
  some (a_1.Kind == (2 : Int))) : Option Bool)).bind fun (o_1 : Bool) =>
  (bif o_1 then (codec_PutInt F (b_1 ++ ([w_u8 a_1.Kind] : List Int)) a_1.N).bind fun r_1 =>
  some r_1 else
  (bif (a_1.Kind == (3 : Int)) then (codec_PutText F (b_1 ++ ([w_u8 a_1.Kind] : List Int)) a_1.S).bind fun r_2 =>
  some r_2 else
  some (b_1 ++ ([w_u8 a_1.Kind] : List Int))))


def column_plain_L1_body (F : Nat) (l_1 : List (T_api_Value)) (rec : Int → (List Int) → Option (List Int)) (v_1 : Int) (row_1 : List Int) : Option (List Int) :=
  (bif decide (v_1 < (((l_1).length : Nat) : Int)) then (idxL l_1 v_1).bind fun x_1 =>
  (column_put F row_1 x_1).bind fun r_1 =>
  rec (w_i64 (v_1 + (1 : Int))) r_1 else
  some row_1)

def column_plain_L1 (F : Nat) (l_1 : List (T_api_Value)) : Nat → Int → (List Int) → Option (List Int)
  | 0, _, _ => none
  | n + 1, v_1, row_1 => column_plain_L1_body F l_1 (column_plain_L1 F l_1 n) v_1 row_1

def column_plain (F : Nat) (l_1 : List (T_api_Value)) : Option (List (Int)) :=
  (column_plain_L1 F l_1 F (0 : Int) []).bind fun (o_1 : (List Int)) =>
  some o_1


def column_runs_L2_body (F : Nat) (l_2 : List T_api_Value) (rec : Int → Option Int) (n_2 : Int) : Option Int :=
  (( bif decide (n_2 < (((l_2).length : Nat) : Int)) then ((idxL l_2 n_2).bind fun x_1 => (idxL l_2 (0 : Int)).bind fun x_2 => some (decide (x_1 = x_2))) else ( some false))).bind fun (p_1 : Bool) =>
  (bif p_1 then rec (w_i64 (n_2 + (1 : Int))) else
  some n_2)

def column_runs_L2 (F : Nat) (l_2 : List T_api_Value) : Nat → Int → Option Int
  | 0, _ => none
  | n + 1, n_2 => column_runs_L2_body F l_2 (column_runs_L2 F l_2 n) n_2

def column_runs_L1_body (F : Nat) (rec : (List T_api_Value) → (List Int) → Option (List Int)) (l_2 : List T_api_Value) (b_1 : List Int) : Option (List Int) :=
  (bif decide ((((l_2).length : Nat) : Int) > (0 : Int)) then (column_runs_L2 F l_2 F (1 : Int)).bind fun (o_2 : Int) =>
  (codec_PutInt F b_1 o_2).bind fun r_1 => (idxL l_2 (0 : Int)).bind fun x_3 => (column_put F r_1 x_3).bind fun r_2 =>
  (need ((0 : Int) ≤ o_2 ∧ o_2 ≤ (((l_2).length : Nat) : Int))).bind fun _ =>
  rec (sub l_2 o_2 (((l_2).length : Nat) : Int)) r_2 else
  some b_1)

def column_runs_L1 (F : Nat) : Nat → (List T_api_Value) → (List Int) → Option (List Int)
  | 0, _, _ => none
  | n + 1, l_2, b_1 => column_runs_L1_body F (column_runs_L1 F n) l_2 b_1

def column_runs (F : Nat) (l_1 : List (T_api_Value)) : Option (List (Int)) :=
  (column_runs_L1 F F l_1 []).bind fun (o_1 : (List Int)) =>
  some o_1


def column_differences_L1_body (F : Nat) (l_1 : List (T_api_Value)) (rec : (List Int) → Int → Int → Option ((List Int) ⊕ ((List (Int)) × Bool))) (b_1 : List Int) (last_1 : Int) (v_1 : Int) : Option ((List Int) ⊕ ((List (Int)) × Bool)) :=
  (bif decide (v_1 < (((l_1).length : Nat) : Int)) then (idxL l_1 v_1).bind fun x_1 =>
  (bif (x_1.Kind == (0 : Int)) then some (.inr ([], false)) else
  (codec_PutInt F b_1 (w_i64 (x_1.N - last_1))).bind fun r_1 =>
  rec r_1 x_1.N (w_i64 (v_1 + (1 : Int)))) else
  some (.inl b_1))

def column_differences_L1 (F : Nat) (l_1 : List (T_api_Value)) : Nat → (List Int) → Int → Int → Option ((List Int) ⊕ ((List (Int)) × Bool))
  | 0, _, _, _ => none
  | n + 1, b_1, last_1, v_1 => column_differences_L1_body F l_1 (column_differences_L1 F l_1 n) b_1 last_1 v_1

def column_differences (F : Nat) (k_1 : Int) (l_1 : List (T_api_Value)) : Option ((List (Int)) × Bool) :=
  (bif (k_1 == (3 : Int)) then some ([], false) else
  (column_differences_L1 F l_1 F [] (0 : Int) (0 : Int)).bind fun (o_1 : (List Int) ⊕ ((List (Int)) × Bool)) =>
  (match o_1 with
  | (.inl q_1) =>
  some (q_1, true)
  | (.inr q_2) =>
  some q_2))


def slices_Grow_byte_byte (n_1 : Int) : Option (List (Int)) :=
  (((bif decide (n_1 < (0 : Int)) then none else
  some ()) : Option Unit)).bind fun (o_1 : Unit) =>
  (bif decide ((w_i64 (n_1 - (w_i64 ((0 : Int) - ((0 : Nat) : Int))))) > (0 : Int)) then (need ((0 : Int) ≤ (w_i64 (n_1 - (w_i64 ((0 : Int) - ((0 : Nat) : Int))))) ∧ 0 < ((w_i64 (n_1 - (w_i64 ((0 : Int) - ((0 : Nat) : Int))))).toNat) ∧ ((w_i64 (n_1 - (w_i64 ((0 : Int) - ((0 : Nat) : Int))))).toNat) * 1 ≤ 140737488355328)).bind fun _ =>
  some [] else
  some [])


def slices_Concat_byte_byte_L1_body (F : Nat) (slices_1 : List (List (Int))) (rec : Int → Int → Option Int) (size_1 : Int) (v_1 : Int) : Option Int :=
  (bif decide (v_1 < (((slices_1).length : Nat) : Int)) then (idxL slices_1 v_1).bind fun x_1 =>
  (bif decide ((w_i64 (size_1 + (((x_1).length : Nat) : Int))) < (0 : Int)) then none else
  rec (w_i64 (size_1 + (((x_1).length : Nat) : Int))) (w_i64 (v_1 + (1 : Int)))) else
  some size_1)

def slices_Concat_byte_byte_L1 (F : Nat) (slices_1 : List (List (Int))) : Nat → Int → Int → Option Int
  | 0, _, _ => none
  | n + 1, size_1, v_1 => slices_Concat_byte_byte_L1_body F slices_1 (slices_Concat_byte_byte_L1 F slices_1 n) size_1 v_1

def slices_Concat_byte_byte_L2_body (F : Nat) (slices_1 : List (List (Int))) (rec : Int → (List Int) → Option (List Int)) (v_2 : Int) (row_1 : List Int) : Option (List Int) :=
  (bif decide (v_2 < (((slices_1).length : Nat) : Int)) then (idxL slices_1 v_2).bind fun x_2 =>
  (need (((row_1).length + (x_2).length) * 1 ≤ 140737488355328)).bind fun _ =>
  rec (w_i64 (v_2 + (1 : Int))) (row_1 ++ x_2) else
  some row_1)

def slices_Concat_byte_byte_L2 (F : Nat) (slices_1 : List (List (Int))) : Nat → Int → (List Int) → Option (List Int)
  | 0, _, _ => none
  | n + 1, v_2, row_1 => slices_Concat_byte_byte_L2_body F slices_1 (slices_Concat_byte_byte_L2 F slices_1 n) v_2 row_1

def slices_Concat_byte_byte (F : Nat) (slices_1 : List (List (Int))) : Option (List (Int)) :=
  (slices_Concat_byte_byte_L1 F slices_1 F (0 : Int) (0 : Int)).bind fun (o_1 : Int) =>
  (slices_Grow_byte_byte o_1).bind fun r_1 =>
  (slices_Concat_byte_byte_L2 F slices_1 F (0 : Int) r_1).bind fun (o_2 : (List Int)) =>
  some o_2


def column_dictionary_L1_body (F : Nat) (l_1 : List (T_api_Value)) (rec : (List Int) → Int → (List (T_api_Value × Int)) → (List Int) → Option ((List Int) × (List (T_api_Value × Int)) × (List Int))) (places_1 : List Int) (v_1 : Int) (row_1 : List (T_api_Value × Int)) (row_2 : List Int) : Option ((List Int) × (List (T_api_Value × Int)) × (List Int)) :=
  (bif decide (v_1 < (((l_1).length : Nat) : Int)) then (idxL l_1 v_1).bind fun x_1 =>
  (((bif !((mget row_1 x_1).isSome) then (need ((row_1).length < 140737488355328)).bind fun _ =>
  (column_put F row_2 x_1).bind fun r_1 =>
  some ((((row_1).length : Nat) : Int), (mput row_1 x_1 (((row_1).length : Nat) : Int)), r_1) else
  some (((mget row_1 x_1).getD (0 : Int)), row_1, row_2)) : Option (Int × (List (T_api_Value × Int)) × (List Int)))).bind fun (o_2 : (Int × (List (T_api_Value × Int)) × (List Int))) =>
  (codec_PutInt F places_1 o_2.1).bind fun r_2 =>
  rec r_2 (w_i64 (v_1 + (1 : Int))) o_2.2.1 o_2.2.2 else
  some (places_1, row_1, row_2))

def column_dictionary_L1 (F : Nat) (l_1 : List (T_api_Value)) : Nat → (List Int) → Int → (List (T_api_Value × Int)) → (List Int) → Option ((List Int) × (List (T_api_Value × Int)) × (List Int))
  | 0, _, _, _, _ => none
  | n + 1, places_1, v_1, row_1, row_2 => column_dictionary_L1_body F l_1 (column_dictionary_L1 F l_1 n) places_1 v_1 row_1 row_2

def column_dictionary (F : Nat) (l_1 : List (T_api_Value)) : Option (List (Int)) :=
  (column_dictionary_L1 F l_1 F [] (0 : Int) [] []).bind fun (o_1 : ((List Int) × (List (T_api_Value × Int)) × (List Int))) =>
  (codec_PutInt F [] (((o_1.2.1).length : Nat) : Int)).bind fun r_3 => (slices_Concat_byte_byte F ([r_3, o_1.2.2, o_1.1] : List (List (Int)))).bind fun r_4 =>
  some r_4


def column_Encode_L1_body (F : Nat) (k_1 : Int) (l_1 : List (T_api_Value)) (rec : Int → Option (Unit ⊕ (T_api_Packed × Int))) (v_1 : Int) : Option (Unit ⊕ (T_api_Packed × Int)) :=
  (bif decide (v_1 < (((l_1).length : Nat) : Int)) then (idxL l_1 v_1).bind fun x_1 =>
  (column_Value k_1 x_1).bind fun r_2 =>
  (bif (r_2 != (0 : Int)) then some (.inr ((⟨(0 : Int), (0 : Int), []⟩ : T_api_Packed), r_2)) else
  rec (w_i64 (v_1 + (1 : Int)))) else
  some (.inl ()))

def column_Encode_L1 (F : Nat) (k_1 : Int) (l_1 : List (T_api_Value)) : Nat → Int → Option (Unit ⊕ (T_api_Packed × Int))
  | 0, _ => none
  | n + 1, v_1 => column_Encode_L1_body F k_1 l_1 (column_Encode_L1 F k_1 l_1 n) v_1

def column_Encode (F : Nat) (k_1 : Int) (l_1 : List (T_api_Value)) : Option (T_api_Packed × Int) :=
  (column_known k_1).bind fun r_1 =>
  (bif (r_1 != (0 : Int)) then some ((⟨(0 : Int), (0 : Int), []⟩ : T_api_Packed), r_1) else
  (bif decide ((((l_1).length : Nat) : Int) > (20000 : Int)) then some ((⟨(0 : Int), (0 : Int), []⟩ : T_api_Packed), (7 : Int)) else
  (column_Encode_L1 F k_1 l_1 F (0 : Int)).bind fun (o_1 : Unit ⊕ (T_api_Packed × Int)) =>
  (match o_1 with
  | (.inl q_1) =>
  (column_plain F l_1).bind fun r_3 =>
  (column_runs F l_1).bind fun r_4 =>
  (((bif decide ((((r_4).length : Nat) : Int) < (((r_3).length : Nat) : Int)) then some (r_4, (1 : Int)) else
  some (r_3, (0 : Int))) : Option ((List Int) × Int))).bind fun (o_2 : ((List Int) × Int)) =>
  (column_differences F k_1 l_1).bind fun r_5 =>
  (((bif (r_5.2 && decide ((((r_5.1).length : Nat) : Int) < (((o_2.1).length : Nat) : Int))) then some (r_5.1, (2 : Int)) else
  some (o_2.1, o_2.2)) : Option ((List Int) × Int))).bind fun (o_3 : ((List Int) × Int)) =>
  (column_dictionary F l_1).bind fun r_6 =>
  (((bif decide ((((r_6).length : Nat) : Int) < (((o_3.1).length : Nat) : Int)) then some (r_6, (3 : Int)) else
  some (o_3.1, o_3.2)) : Option ((List Int) × Int))).bind fun (o_4 : ((List Int) × Int)) =>
  (need (((([w_u8 o_4.2] : List Int)).length + (o_4.1).length) * 1 ≤ 140737488355328)).bind fun _ =>
  some ((⟨k_1, (((l_1).length : Nat) : Int), (([w_u8 o_4.2] : List Int) ++ o_4.1)⟩ : T_api_Packed), (0 : Int))
  | (.inr q_2) =>
  some q_2)))


structure T_column_input where
  b : List (Int)
  bad : Bool
  deriving DecidableEq, Inhabited
def v_T_column_input (s : T_column_input) : List AV := [.sl false 1 (List.map (AV.int .u8) s.b), .bool s.bad]
def e_T_column_input (s : T_column_input) : AV := .agg (v_T_column_input s)

def codec_integer (u_1 : Int) : Option Int :=
  some (ixor .i64 (w_i64 (ishr .u64 u_1 (1 : Int))) (w_i64 (0 - (w_i64 (iand .u64 u_1 (1 : Int))))))


def codec_Int_L1_body (F : Nat) (b_1 : List (Int)) (rec : Int → Int → Option (Unit ⊕ (Int × Int × Int))) (u_1 : Int) (v_1 : Int) : Option (Unit ⊕ (Int × Int × Int)) :=
  (bif decide (v_1 < (((b_1).length : Nat) : Int)) then (idxL b_1 v_1).bind fun x_1 =>
  (bif ((v_1 == (9 : Int)) && decide (x_1 > (1 : Int))) then some (.inr ((0 : Int), (0 : Int), (10 : Int))) else
  (need ((0 : Int) ≤ (w_i64 ((7 : Int) * v_1)))).bind fun _ =>
  (bif decide (x_1 ≥ (128 : Int)) then rec (ior .u64 u_1 (ishl .u64 (w_u64 (iand .u8 x_1 (127 : Int))) (w_i64 ((7 : Int) * v_1)))) (w_i64 (v_1 + (1 : Int))) else
  (bif ((x_1 == (0 : Int)) && decide (v_1 > (0 : Int))) then some (.inr ((0 : Int), (0 : Int), (10 : Int))) else
  (codec_integer (ior .u64 u_1 (ishl .u64 (w_u64 (iand .u8 x_1 (127 : Int))) (w_i64 ((7 : Int) * v_1))))).bind fun r_1 =>
  some (.inr (r_1, w_i64 (v_1 + (1 : Int)), (0 : Int)))))) else
  some (.inl ()))

def codec_Int_L1 (F : Nat) (b_1 : List (Int)) : Nat → Int → Int → Option (Unit ⊕ (Int × Int × Int))
  | 0, _, _ => none
  | n + 1, u_1, v_1 => codec_Int_L1_body F b_1 (codec_Int_L1 F b_1 n) u_1 v_1

def codec_Int (F : Nat) (b_1 : List (Int)) : Option (Int × Int × Int) :=
  (codec_Int_L1 F b_1 F (0 : Int) (0 : Int)).bind fun (o_1 : Unit ⊕ (Int × Int × Int)) =>
  (match o_1 with
  | (.inl q_1) =>
  some ((0 : Int), (0 : Int), (8 : Int))
  | (.inr q_2) =>
  some q_2)


def column_input_num (F : Nat) (x_1 : T_column_input) : Option (Int × T_column_input) :=
  (codec_Int F x_1.b).bind fun r_1 =>
  (bif (r_1.2.2 != (0 : Int)) then some ((0 : Int), (⟨x_1.b, true⟩ : T_column_input)) else
  (need ((0 : Int) ≤ r_1.2.1 ∧ r_1.2.1 ≤ (((x_1.b).length : Nat) : Int))).bind fun _ =>
  some (r_1.1, (⟨sub x_1.b r_1.2.1 (((x_1.b).length : Nat) : Int), x_1.bad⟩ : T_column_input)))


def codec_Text (F : Nat) (b_1 : List (Int)) (most_1 : Int) : Option ((List Int) × Int × Int) :=
  (codec_Int F b_1).bind fun r_1 =>
  (bif (r_1.2.2 != (0 : Int)) then some (([] : List Int), (0 : Int), r_1.2.2) else
  (bif decide (r_1.1 < (0 : Int)) then some (([] : List Int), (0 : Int), (10 : Int)) else
  (bif decide (r_1.1 > most_1) then some (([] : List Int), (0 : Int), (7 : Int)) else
  (bif decide (r_1.1 > (w_i64 ((((b_1).length : Nat) : Int) - r_1.2.1))) then some (([] : List Int), (0 : Int), (8 : Int)) else
  (need ((0 : Int) ≤ r_1.2.1 ∧ r_1.2.1 ≤ (w_i64 (r_1.2.1 + r_1.1)) ∧ (w_i64 (r_1.2.1 + r_1.1)) ≤ (((b_1).length : Nat) : Int))).bind fun _ =>
  some (sub b_1 r_1.2.1 (w_i64 (r_1.2.1 + r_1.1)), w_i64 (r_1.2.1 + r_1.1), (0 : Int))))))


def column_input_value (F : Nat) (x_1 : T_column_input) : Option (T_api_Value × T_column_input) :=
  (bif ((((x_1.b).length : Nat) : Int) == (0 : Int)) then some ((⟨(0 : Int), (0 : Int), ([] : List Int)⟩ : T_api_Value), (⟨x_1.b, true⟩ : T_column_input)) else
  (idxL x_1.b (0 : Int)).bind fun x_2 =>
  (need ((1 : Int) ≤ (((x_1.b).length : Nat) : Int))).bind fun _ =>
  (bif ((w_i64 x_2) == (0 : Int)) then some ((⟨w_i64 x_2, (0 : Int), ([] : List Int)⟩ : T_api_Value), (⟨sub x_1.b (1 : Int) (((x_1.b).length : Nat) : Int), x_1.bad⟩ : T_column_input)) else
  (((bif ((w_i64 x_2) == (1 : Int)) then some ((w_i64 x_2) == (1 : Int)) else
  some ((w_i64 x_2) == (2 : Int))) : Option Bool)).bind fun (o_1 : Bool) =>
  (bif o_1 then (column_input_num F (⟨sub x_1.b (1 : Int) (((x_1.b).length : Nat) : Int), x_1.bad⟩ : T_column_input)).bind fun r_1 =>
  some ((⟨w_i64 x_2, r_1.1, ([] : List Int)⟩ : T_api_Value), r_1.2) else
  (bif ((w_i64 x_2) == (3 : Int)) then (codec_Text F (sub x_1.b (1 : Int) (((x_1.b).length : Nat) : Int)) (200 : Int)).bind fun r_2 =>
  (bif !(x_1.bad || (r_2.2.2 != (0 : Int))) then (need ((0 : Int) ≤ r_2.2.1 ∧ r_2.2.1 ≤ (((sub x_1.b (1 : Int) (((x_1.b).length : Nat) : Int)).length : Nat) : Int))).bind fun _ =>
  some ((⟨w_i64 x_2, (0 : Int), r_2.1⟩ : T_api_Value), (⟨sub (sub x_1.b (1 : Int) (((x_1.b).length : Nat) : Int)) r_2.2.1 (((sub x_1.b (1 : Int) (((x_1.b).length : Nat) : Int)).length : Nat) : Int), (x_1.bad || (r_2.2.2 != (0 : Int)))⟩ : T_column_input)) else
  some ((⟨w_i64 x_2, (0 : Int), ([] : List Int)⟩ : T_api_Value), (⟨sub x_1.b (1 : Int) (((x_1.b).length : Nat) : Int), (x_1.bad || (r_2.2.2 != (0 : Int)))⟩ : T_column_input))) else
  some ((⟨w_i64 x_2, (0 : Int), ([] : List Int)⟩ : T_api_Value), (⟨sub x_1.b (1 : Int) (((x_1.b).length : Nat) : Int), true⟩ : T_column_input))))))


def bits_Mul64 (x_1 : Int) (y_1 : Int) : Option (Int × Int) :=
  some (w_u64 ((w_u64 ((w_u64 ((ishr .u64 x_1 (32 : Int)) * (ishr .u64 y_1 (32 : Int)))) + (ishr .u64 (w_u64 ((w_u64 ((ishr .u64 x_1 (32 : Int)) * (iand .u64 y_1 (4294967295 : Int)))) + (ishr .u64 (w_u64 ((iand .u64 x_1 (4294967295 : Int)) * (iand .u64 y_1 (4294967295 : Int)))) (32 : Int)))) (32 : Int)))) + (ishr .u64 (w_u64 ((iand .u64 (w_u64 ((w_u64 ((ishr .u64 x_1 (32 : Int)) * (iand .u64 y_1 (4294967295 : Int)))) + (ishr .u64 (w_u64 ((iand .u64 x_1 (4294967295 : Int)) * (iand .u64 y_1 (4294967295 : Int)))) (32 : Int)))) (4294967295 : Int)) + (w_u64 ((iand .u64 x_1 (4294967295 : Int)) * (ishr .u64 y_1 (32 : Int)))))) (32 : Int))), w_u64 (x_1 * y_1))


def bits_Mul (x_1 : Int) (y_1 : Int) : Option (Int × Int) :=
  (bits_Mul64 x_1 y_1).bind fun r_1 =>
  some (r_1.1, r_1.2)


def slices_Repeat_tracebook_api_Value_tracebook_api_Value_L1_body (F : Nat) (rec : Int → (List T_api_Value) → Option (List T_api_Value)) (n_1 : Int) (row_1 : List T_api_Value) : Option (List T_api_Value) :=
  (bif decide (n_1 < (((row_1).length : Nat) : Int)) then (need ((0 : Int) ≤ n_1 ∧ n_1 ≤ (((row_1).length : Nat) : Int))).bind fun _ => (need ((0 : Int) ≤ n_1 ∧ n_1 ≤ (((row_1).length : Nat) : Int))).bind fun _ => (need (0 ≤ ((n_1).toNat) ∧ ((n_1).toNat) ≤ (row_1).length)).bind fun _ => (need (((n_1).toNat) ≤ ((row_1).length) ∧ ((row_1).length) ≤ (row_1).length)).bind fun _ =>
  rec (w_i64 (n_1 + (((min (((row_1).take ((n_1).toNat)).drop 0).length ((row_1).length - (n_1).toNat)) : Nat) : Int))) (cpy row_1 ((n_1).toNat) ((row_1).length) (((row_1).take ((n_1).toNat)).drop 0)) else
  some row_1)

def slices_Repeat_tracebook_api_Value_tracebook_api_Value_L1 (F : Nat) : Nat → Int → (List T_api_Value) → Option (List T_api_Value)
  | 0, _, _ => none
  | n + 1, n_1, row_1 => slices_Repeat_tracebook_api_Value_tracebook_api_Value_L1_body F (slices_Repeat_tracebook_api_Value_tracebook_api_Value_L1 F n) n_1 row_1

def slices_Repeat_tracebook_api_Value_tracebook_api_Value (F : Nat) (x_1 : List (T_api_Value)) (count_1 : Int) : Option (List (T_api_Value)) :=
  (((bif decide (count_1 < (0 : Int)) then none else
  some ()) : Option Unit)).bind fun (o_1 : Unit) =>
  (bits_Mul (w_u64 (((x_1).length : Nat) : Int)) (w_u64 count_1)).bind fun r_1 =>
  (((bif (decide (r_1.1 > (0 : Int)) || decide (r_1.2 > (9223372036854775807 : Int))) then none else
  some ()) : Option Unit)).bind fun (o_2 : Unit) =>
  (need ((0 : Int) ≤ (w_i64 r_1.2) ∧ ((w_i64 r_1.2).toNat) * 32 ≤ 281474976710656)).bind fun _ =>
  (need (0 ≤ ((w_i64 r_1.2).toNat) ∧ ((w_i64 r_1.2).toNat) ≤ ((List.replicate ((w_i64 r_1.2).toNat) (⟨(0 : Int), (0 : Int), []⟩ : T_api_Value))).length)).bind fun _ =>
  (slices_Repeat_tracebook_api_Value_tracebook_api_Value_L1 F F (((min (x_1).length ((w_i64 r_1.2).toNat - 0)) : Nat) : Int) (cpy (List.replicate ((w_i64 r_1.2).toNat) (⟨(0 : Int), (0 : Int), []⟩ : T_api_Value)) 0 ((w_i64 r_1.2).toNat) x_1)).bind fun (o_3 : (List T_api_Value)) =>
  some o_3


def column_input_values_L1_body (F : Nat) (n_1 : Int) (rec : (List Int) → Bool → (List T_api_Value) → Option ((List Int) × Bool × (List T_api_Value))) (c_1 : List Int) (c_2 : Bool) (row_1 : List T_api_Value) : Option ((List Int) × Bool × (List T_api_Value)) :=
  (bif (decide ((((row_1).length : Nat) : Int) < n_1) && !c_2) then (column_input_value F (⟨c_1, c_2⟩ : T_column_input)).bind fun r_1 => (need (((row_1).length + (([r_1.1] : List T_api_Value)).length) * 32 ≤ 140737488355328)).bind fun _ =>
  rec r_1.2.b r_1.2.bad (row_1 ++ ([r_1.1] : List T_api_Value)) else
  some (c_1, c_2, row_1))

def column_input_values_L1 (F : Nat) (n_1 : Int) : Nat → (List Int) → Bool → (List T_api_Value) → Option ((List Int) × Bool × (List T_api_Value))
  | 0, _, _, _ => none
  | n + 1, c_1, c_2, row_1 => column_input_values_L1_body F n_1 (column_input_values_L1 F n_1 n) c_1 c_2 row_1

def column_input_values_L2_body (F : Nat) (n_1 : Int) (rec : (List Int) → Bool → (List T_api_Value) → Option ((List Int) × Bool × (List T_api_Value))) (c_3 : List Int) (c_4 : Bool) (row_2 : List T_api_Value) : Option ((List Int) × Bool × (List T_api_Value)) :=
  (bif (decide ((((row_2).length : Nat) : Int) < n_1) && !c_4) then (column_input_num F (⟨c_3, c_4⟩ : T_column_input)).bind fun r_2 =>
  (bif !(r_2.2.bad || (decide (r_2.1 < (1 : Int)) || decide (r_2.1 > (w_i64 (n_1 - (((row_2).length : Nat) : Int)))))) then (column_input_value F (⟨r_2.2.b, (r_2.2.bad || (decide (r_2.1 < (1 : Int)) || decide (r_2.1 > (w_i64 (n_1 - (((row_2).length : Nat) : Int))))))⟩ : T_column_input)).bind fun r_3 => (slices_Repeat_tracebook_api_Value_tracebook_api_Value F ([r_3.1] : List T_api_Value) r_2.1).bind fun r_4 => (need (((row_2).length + (r_4).length) * 32 ≤ 140737488355328)).bind fun _ =>
  rec r_3.2.b r_3.2.bad (row_2 ++ r_4) else
  rec r_2.2.b (r_2.2.bad || (decide (r_2.1 < (1 : Int)) || decide (r_2.1 > (w_i64 (n_1 - (((row_2).length : Nat) : Int)))))) row_2) else
  some (c_3, c_4, row_2))

def column_input_values_L2 (F : Nat) (n_1 : Int) : Nat → (List Int) → Bool → (List T_api_Value) → Option ((List Int) × Bool × (List T_api_Value))
  | 0, _, _, _ => none
  | n + 1, c_3, c_4, row_2 => column_input_values_L2_body F n_1 (column_input_values_L2 F n_1 n) c_3 c_4 row_2

def column_input_values_L3_body (F : Nat) (k_1 : Int) (n_1 : Int) (rec : Int → (List Int) → Bool → (List T_api_Value) → Option ((List Int) × Bool × (List T_api_Value))) (last_1 : Int) (c_5 : List Int) (c_6 : Bool) (row_3 : List T_api_Value) : Option ((List Int) × Bool × (List T_api_Value)) :=
  (bif (decide ((((row_3).length : Nat) : Int) < n_1) && !c_6) then (column_input_num F (⟨c_5, c_6⟩ : T_column_input)).bind fun r_5 =>
  (need (((row_3).length + (([(⟨k_1, w_i64 (last_1 + r_5.1), ([] : List Int)⟩ : T_api_Value)] : List T_api_Value)).length) * 32 ≤ 140737488355328)).bind fun _ =>
  rec (w_i64 (last_1 + r_5.1)) r_5.2.b r_5.2.bad (row_3 ++ ([(⟨k_1, w_i64 (last_1 + r_5.1), ([] : List Int)⟩ : T_api_Value)] : List T_api_Value)) else
  some (c_5, c_6, row_3))

def column_input_values_L3 (F : Nat) (k_1 : Int) (n_1 : Int) : Nat → Int → (List Int) → Bool → (List T_api_Value) → Option ((List Int) × Bool × (List T_api_Value))
  | 0, _, _, _, _ => none
  | n + 1, last_1, c_5, c_6, row_3 => column_input_values_L3_body F k_1 n_1 (column_input_values_L3 F k_1 n_1 n) last_1 c_5 c_6 row_3

def column_input_values_L4_body (F : Nat) (r_6 : Int × T_column_input) (rec : (List Int) → Bool → (List T_api_Value) → Option ((List Int) × Bool × (List T_api_Value))) (c_7 : List Int) (c_8 : Bool) (row_4 : List T_api_Value) : Option ((List Int) × Bool × (List T_api_Value)) :=
  (bif (decide ((((row_4).length : Nat) : Int) < r_6.1) && !c_8) then (column_input_value F (⟨c_7, c_8⟩ : T_column_input)).bind fun r_7 => (need (((row_4).length + (([r_7.1] : List T_api_Value)).length) * 32 ≤ 140737488355328)).bind fun _ =>
  rec r_7.2.b r_7.2.bad (row_4 ++ ([r_7.1] : List T_api_Value)) else
  some (c_7, c_8, row_4))

def column_input_values_L4 (F : Nat) (r_6 : Int × T_column_input) : Nat → (List Int) → Bool → (List T_api_Value) → Option ((List Int) × Bool × (List T_api_Value))
  | 0, _, _, _ => none
  | n + 1, c_7, c_8, row_4 => column_input_values_L4_body F r_6 (column_input_values_L4 F r_6 n) c_7 c_8 row_4

def column_input_values_L5_body (F : Nat) (n_1 : Int) (o_5 : ((List Int) × Bool × (List T_api_Value))) (rec : (List Int) → Bool → (List T_api_Value) → Option ((List Int) × Bool × (List T_api_Value))) (c_9 : List Int) (c_10 : Bool) (row_5 : List T_api_Value) : Option ((List Int) × Bool × (List T_api_Value)) :=
  (bif (decide ((((row_5).length : Nat) : Int) < n_1) && !c_10) then (column_input_num F (⟨c_9, c_10⟩ : T_column_input)).bind fun r_8 =>
  (bif !(r_8.2.bad || (decide (r_8.1 < (0 : Int)) || decide (r_8.1 ≥ (((o_5.2.2).length : Nat) : Int)))) then (idxL o_5.2.2 r_8.1).bind fun x_2 => (need (((row_5).length + (([x_2] : List T_api_Value)).length) * 32 ≤ 140737488355328)).bind fun _ =>
  rec r_8.2.b (r_8.2.bad || (decide (r_8.1 < (0 : Int)) || decide (r_8.1 ≥ (((o_5.2.2).length : Nat) : Int)))) (row_5 ++ ([x_2] : List T_api_Value)) else
  rec r_8.2.b (r_8.2.bad || (decide (r_8.1 < (0 : Int)) || decide (r_8.1 ≥ (((o_5.2.2).length : Nat) : Int)))) row_5) else
  some (c_9, c_10, row_5))

def column_input_values_L5 (F : Nat) (n_1 : Int) (o_5 : ((List Int) × Bool × (List T_api_Value))) : Nat → (List Int) → Bool → (List T_api_Value) → Option ((List Int) × Bool × (List T_api_Value))
  | 0, _, _, _ => none
  | n + 1, c_9, c_10, row_5 => column_input_values_L5_body F n_1 o_5 (column_input_values_L5 F n_1 o_5 n) c_9 c_10 row_5

def column_input_values (F : Nat) (x_1 : T_column_input) (coding_1 : Int) (k_1 : Int) (n_1 : Int) : Option ((List (T_api_Value)) × T_column_input) :=
  (((bif (coding_1 == (0 : Int)) then (column_input_values_L1 F n_1 F x_1.b x_1.bad []).bind fun (o_2 : ((List Int) × Bool × (List T_api_Value))) =>
  some (o_2.1, o_2.2.1, o_2.2.2) else
  (bif (coding_1 == (1 : Int)) then (column_input_values_L2 F n_1 F x_1.b x_1.bad []).bind fun (o_3 : ((List Int) × Bool × (List T_api_Value))) =>
  some (o_3.1, o_3.2.1, o_3.2.2) else
  (bif (coding_1 == (2 : Int)) then (column_input_values_L3 F k_1 n_1 F (0 : Int) x_1.b x_1.bad []).bind fun (o_4 : ((List Int) × Bool × (List T_api_Value))) =>
  some (o_4.1, o_4.2.1, o_4.2.2) else
  (bif (coding_1 == (3 : Int)) then (column_input_num F x_1).bind fun r_6 =>
  (column_input_values_L4 F r_6 F r_6.2.b (r_6.2.bad || (decide (r_6.1 < (0 : Int)) || decide (r_6.1 > n_1))) []).bind fun (o_5 : ((List Int) × Bool × (List T_api_Value))) =>
  (column_input_values_L5 F n_1 o_5 F o_5.1 o_5.2.1 []).bind fun (o_6 : ((List Int) × Bool × (List T_api_Value))) =>
  some (o_6.1, o_6.2.1, o_6.2.2) else
  some (x_1.b, true, []))))) : Option ((List Int) × Bool × (List T_api_Value)))).bind fun (o_1 : ((List Int) × Bool × (List T_api_Value))) =>
  some (o_1.2.2, (⟨o_1.1, (o_1.2.1 || decide ((((o_1.1).length : Nat) : Int) > (0 : Int)))⟩ : T_column_input))


def bytes_Equal (a_1 : List (Int)) (b_1 : List (Int)) : Option Bool :=
  some (a_1 == b_1)


def column_Decode (F : Nat) (p_1 : T_api_Packed) : Option ((List (T_api_Value)) × Int) :=
  (column_known p_1.Type_).bind fun r_1 =>
  (bif (r_1 != (0 : Int)) then some ([], r_1) else
  (bif decide (p_1.N > (20000 : Int)) then some ([], (7 : Int)) else
  (bif (decide (p_1.N < (0 : Int)) || ((((p_1.Bytes).length : Nat) : Int) == (0 : Int))) then some ([], (10 : Int)) else
  (need ((1 : Int) ≤ (((p_1.Bytes).length : Nat) : Int))).bind fun _ =>
  (idxL p_1.Bytes (0 : Int)).bind fun x_1 => (column_input_values F (⟨sub p_1.Bytes (1 : Int) (((p_1.Bytes).length : Nat) : Int), false⟩ : T_column_input) x_1 p_1.Type_ p_1.N).bind fun r_2 =>
  (bif r_2.2.bad then some ([], (10 : Int)) else
  (column_Encode F p_1.Type_ r_2.1).bind fun r_3 =>
  (( bif (r_3.2 != (0 : Int)) then ( some true) else ( bif (r_3.1.N != p_1.N) then ( some true) else ((bytes_Equal r_3.1.Bytes p_1.Bytes).bind fun r_4 => some (!r_4))))).bind fun (p_2 : Bool) =>
  (bif p_2 then some ([], (10 : Int)) else
  some (r_2.1, (0 : Int)))))))


def column_Coding (F : Nat) (p_1 : T_api_Packed) : Option (Int × Int) :=
  (column_Decode F p_1).bind fun r_1 =>
  (bif (r_1.2 != (0 : Int)) then some ((0 : Int), r_1.2) else
  (idxL p_1.Bytes (0 : Int)).bind fun x_1 =>
  some (w_i64 x_1, (0 : Int)))


def L33_awake (F : Nat) : Option Bool :=
  (L33_num (5 : Int)).bind fun r_1 => (L33_num (5 : Int)).bind fun r_2 => (L33_num (5 : Int)).bind fun r_3 => (column_Encode F (2 : Int) ([r_1, r_2, r_3] : List T_api_Value)).bind fun r_4 =>
  (L33_num (1 : Int)).bind fun r_5 => (L33_num (2 : Int)).bind fun r_6 => (L33_num (3 : Int)).bind fun r_7 => (column_Encode F (2 : Int) ([r_5, r_6, r_7] : List T_api_Value)).bind fun r_8 =>
  (column_Encode F (3 : Int) []).bind fun r_9 =>
  (column_Decode F (⟨(2 : Int), (3 : Int), ([(1 : Int), (6 : Int), (2 : Int), (10 : Int)] : List Int)⟩ : T_api_Packed)).bind fun r_10 =>
  (column_Coding F r_8.1).bind fun r_11 =>
  (( bif (r_4.2 == (0 : Int)) then ( bif (r_4.1.N == (3 : Int)) then ( bif (r_4.1.Bytes == ([1, 6, 2, 10] : List Int)) then ( bif (r_8.2 == (0 : Int)) then ( bif (r_8.1.Bytes == ([2, 2, 2, 2] : List Int)) then ( bif (r_9.2 == (0 : Int)) then ( bif (r_9.1.Bytes == ([0] : List Int)) then ( bif (r_10.2 == (0 : Int)) then ( bif ((((r_10.1).length : Nat) : Int) == (3 : Int)) then ((idxL r_10.1 (2 : Int)).bind fun x_1 => (L33_num (5 : Int)).bind fun r_12 => bif (decide (x_1 = r_12)) then ( bif (r_11.1 == (2 : Int)) then ( bif (r_11.2 == (0 : Int)) then ((column_Value (2 : Int) (⟨(0 : Int), (0 : Int), ([] : List Int)⟩ : T_api_Value)).bind fun r_13 => bif (r_13 == (0 : Int)) then ((L33_num (1 : Int)).bind fun r_14 => (column_Value (1 : Int) r_14).bind fun r_15 => some (r_15 == (14 : Int))) else ( some false)) else ( some false)) else ( some false)) else ( some false)) else ( some false)) else ( some false)) else ( some false)) else ( some false)) else ( some false)) else ( some false)) else ( some false)) else ( some false)) else ( some false))).bind fun (p_1 : Bool) =>
  some p_1


def L33_ColumnValues (F : Nat) (k_1 : Int) (a_1 : T_api_Value) : Option Bool :=
  (( bif decide ((((a_1.S).length : Nat) : Int) > (300 : Int)) then ( some true) else ((column_Value k_1 a_1).bind fun r_1 => (R33_Value k_1 a_1).bind fun r_2 => bif (r_1 == r_2) then ((L33_awake F).bind fun r_3 => some r_3) else ( some false)))).bind fun (p_1 : Bool) =>
  some p_1


def L33_few_L1_body (F : Nat) (l_1 : List (T_api_Value)) (rec : Int → Option (Unit ⊕ Bool)) (i_1 : Int) : Option (Unit ⊕ Bool) :=
  (bif decide (i_1 < (((l_1).length : Nat) : Int)) then (idxL l_1 i_1).bind fun x_1 =>
  (bif decide ((((x_1.S).length : Nat) : Int) > (300 : Int)) then some (.inr false) else
  rec (w_i64 (i_1 + (1 : Int)))) else
  some (.inl ()))

def L33_few_L1 (F : Nat) (l_1 : List (T_api_Value)) : Nat → Int → Option (Unit ⊕ Bool)
  | 0, _ => none
  | n + 1, i_1 => L33_few_L1_body F l_1 (L33_few_L1 F l_1 n) i_1

def L33_few (F : Nat) (l_1 : List (T_api_Value)) : Option Bool :=
  (bif decide ((((l_1).length : Nat) : Int) > (60 : Int)) then some false else
  (L33_few_L1 F l_1 F (0 : Int)).bind fun (o_1 : Unit ⊕ Bool) =>
  (match o_1 with
  | (.inl q_1) =>
  some true
  | (.inr q_2) =>
  some q_2))


def R05_number (n_1 : Int) : Option Int :=
  (bif decide (n_1 < (0 : Int)) then some (w_u64 ((w_u64 ((2 : Int) * (w_u64 (w_i64 (0 - (w_i64 (n_1 + (1 : Int)))))))) + (1 : Int))) else
  some (w_u64 ((2 : Int) * (w_u64 n_1))))


def R05_PutInt_L1_body (F : Nat) (rec : Int → (List Int) → Option (Int × (List Int))) (u_1 : Int) (row_1 : List Int) : Option (Int × (List Int)) :=
  (bif decide (u_1 ≥ (128 : Int)) then (need (((row_1).length + (([w_u8 ((w_u8 (irem u_1 (128 : Int))) + (128 : Int))] : List Int)).length) * 1 ≤ 140737488355328)).bind fun _ =>
  rec (iquo .u64 u_1 (128 : Int)) (row_1 ++ ([w_u8 ((w_u8 (irem u_1 (128 : Int))) + (128 : Int))] : List Int)) else
  some (u_1, row_1))

def R05_PutInt_L1 (F : Nat) : Nat → Int → (List Int) → Option (Int × (List Int))
  | 0, _, _ => none
  | n + 1, u_1, row_1 => R05_PutInt_L1_body F (R05_PutInt_L1 F n) u_1 row_1

def R05_PutInt (F : Nat) (b_1 : List (Int)) (n_1 : Int) : Option (List (Int)) :=
  (need (((([] : List Int)).length + (b_1).length) * 1 ≤ 140737488355328)).bind fun _ =>
  (R05_number n_1).bind fun r_1 =>
  (R05_PutInt_L1 F F r_1 ([] ++ b_1)).bind fun (o_1 : (Int × (List Int))) =>
  (need (((o_1.2).length + (([w_u8 o_1.1] : List Int)).length) * 1 ≤ 140737488355328)).bind fun _ =>
  some (o_1.2 ++ ([w_u8 o_1.1] : List Int))


def R05_PutText_L1_body (F : Nat) (s_1 : List Int) (rec : Int → (List Int) → Option (List Int)) (i_1 : Int) (row_1 : List Int) : Option (List Int) :=
  (bif decide (i_1 < (((s_1).length : Nat) : Int)) then (idxL s_1 i_1).bind fun c_1 => (need (((row_1).length + (([c_1] : List Int)).length) * 1 ≤ 140737488355328)).bind fun _ =>
  rec (w_i64 (i_1 + (1 : Int))) (row_1 ++ ([c_1] : List Int)) else
  some row_1)

def R05_PutText_L1 (F : Nat) (s_1 : List Int) : Nat → Int → (List Int) → Option (List Int)
  | 0, _, _ => none
  | n + 1, i_1, row_1 => R05_PutText_L1_body F s_1 (R05_PutText_L1 F s_1 n) i_1 row_1

def R05_PutText (F : Nat) (b_1 : List (Int)) (s_1 : List Int) : Option (List (Int)) :=
  (R05_PutInt F b_1 (((s_1).length : Nat) : Int)).bind fun r_1 =>
  (R05_PutText_L1 F s_1 F (0 : Int) r_1).bind fun (o_1 : (List Int)) =>
  some o_1


def R33_one (F : Nat) (b_1 : List (Int)) (a_1 : T_api_Value) : Option (List (Int)) :=
  (need (((b_1).length + (([w_u8 a_1.Kind] : List Int)).length) * 1 ≤ 140737488355328)).bind fun _ =>
  (bif ((a_1.Kind == (1 : Int)) || (a_1.Kind == (2 : Int))) then (R05_PutInt F (b_1 ++ ([w_u8 a_1.Kind] : List Int)) a_1.N).bind fun r_1 =>
  some r_1 else
  (bif (a_1.Kind == (3 : Int)) then (R05_PutText F (b_1 ++ ([w_u8 a_1.Kind] : List Int)) a_1.S).bind fun r_2 =>
  some r_2 else
  some (b_1 ++ ([w_u8 a_1.Kind] : List Int))))


def R33_plain_L1_body (F : Nat) (l_1 : List (T_api_Value)) (rec : Int → (List Int) → Option (List Int)) (i_1 : Int) (row_1 : List Int) : Option (List Int) :=
  (bif decide (i_1 < (((l_1).length : Nat) : Int)) then (idxL l_1 i_1).bind fun x_1 => (R33_one F row_1 x_1).bind fun r_1 =>
  rec (w_i64 (i_1 + (1 : Int))) r_1 else
  some row_1)

def R33_plain_L1 (F : Nat) (l_1 : List (T_api_Value)) : Nat → Int → (List Int) → Option (List Int)
  | 0, _, _ => none
  | n + 1, i_1, row_1 => R33_plain_L1_body F l_1 (R33_plain_L1 F l_1 n) i_1 row_1

def R33_plain (F : Nat) (l_1 : List (T_api_Value)) : Option (List (Int)) :=
  (R33_plain_L1 F l_1 F (0 : Int) []).bind fun (o_1 : (List Int)) =>
  some o_1


def R33_runs_L2_body (F : Nat) (l_1 : List (T_api_Value)) (i_1 : Int) (rec : Int → Option Int) (n_2 : Int) : Option Int :=
  (( bif decide ((w_i64 (i_1 + n_2)) < (((l_1).length : Nat) : Int)) then ((idxL l_1 (w_i64 (i_1 + n_2))).bind fun x_1 => (idxL l_1 i_1).bind fun x_2 => some (decide (x_1 = x_2))) else ( some false))).bind fun (p_1 : Bool) =>
  (bif p_1 then rec (w_i64 (n_2 + (1 : Int))) else
  some n_2)

def R33_runs_L2 (F : Nat) (l_1 : List (T_api_Value)) (i_1 : Int) : Nat → Int → Option Int
  | 0, _ => none
  | n + 1, n_2 => R33_runs_L2_body F l_1 i_1 (R33_runs_L2 F l_1 i_1 n) n_2

def R33_runs_L1_body (F : Nat) (l_1 : List (T_api_Value)) (rec : (List Int) → Int → Option (List Int)) (b_1 : List Int) (i_1 : Int) : Option (List Int) :=
  (bif decide (i_1 < (((l_1).length : Nat) : Int)) then (R33_runs_L2 F l_1 i_1 F (1 : Int)).bind fun (o_2 : Int) =>
  (R05_PutInt F b_1 o_2).bind fun r_1 => (idxL l_1 i_1).bind fun x_3 => (R33_one F r_1 x_3).bind fun r_2 =>
  rec r_2 (w_i64 (i_1 + o_2)) else
  some b_1)

def R33_runs_L1 (F : Nat) (l_1 : List (T_api_Value)) : Nat → (List Int) → Int → Option (List Int)
  | 0, _, _ => none
  | n + 1, b_1, i_1 => R33_runs_L1_body F l_1 (R33_runs_L1 F l_1 n) b_1 i_1

def R33_runs (F : Nat) (l_1 : List (T_api_Value)) : Option (List (Int)) :=
  (R33_runs_L1 F l_1 F [] (0 : Int)).bind fun (o_1 : (List Int)) =>
  some o_1


def R33_differences_L1_body (F : Nat) (k_1 : Int) (l_1 : List (T_api_Value)) (rec : (List Int) → Int → Option ((List Int) ⊕ ((List (Int)) × Bool))) (b_1 : List Int) (i_1 : Int) : Option ((List Int) ⊕ ((List (Int)) × Bool)) :=
  (bif decide (i_1 < (((l_1).length : Nat) : Int)) then (((((idxL l_1 i_1).bind fun x_1 => bif (x_1.Kind != k_1) then ( some true) else ( some (k_1 == (3 : Int))))).bind fun (p_1 : Bool) =>
  (bif p_1 then some (.inr ([], false)) else
  (idxL l_1 i_1).bind fun x_2 =>
  (bif decide (i_1 > (0 : Int)) then (idxL l_1 (w_i64 (i_1 - (1 : Int)))).bind fun x_3 =>
  (R05_PutInt F b_1 (w_i64 (x_2.N - x_3.N))).bind fun r_1 =>
  some (.inl r_1) else
  (R05_PutInt F b_1 x_2.N).bind fun r_2 =>
  some (.inl r_2))) : Option ((List Int) ⊕ ((List (Int)) × Bool)))).bind fun (o_2 : (List Int) ⊕ ((List (Int)) × Bool)) =>
  (match o_2 with
  | (.inl q_1) =>
  rec q_1 (w_i64 (i_1 + (1 : Int)))
  | (.inr q_2) =>
  some (.inr q_2)) else
  some (.inl b_1))

def R33_differences_L1 (F : Nat) (k_1 : Int) (l_1 : List (T_api_Value)) : Nat → (List Int) → Int → Option ((List Int) ⊕ ((List (Int)) × Bool))
  | 0, _, _ => none
  | n + 1, b_1, i_1 => R33_differences_L1_body F k_1 l_1 (R33_differences_L1 F k_1 l_1 n) b_1 i_1

def R33_differences (F : Nat) (k_1 : Int) (l_1 : List (T_api_Value)) : Option ((List (Int)) × Bool) :=
  (R33_differences_L1 F k_1 l_1 F [] (0 : Int)).bind fun (o_1 : (List Int) ⊕ ((List (Int)) × Bool)) =>
  (match o_1 with
  | (.inl q_3) =>
  some (q_3, (k_1 != (3 : Int)))
  | (.inr q_4) =>
  some q_4)


def R33_at_L1_body (F : Nat) (l_1 : List (T_api_Value)) (a_1 : T_api_Value) (rec : Int → Option (Unit ⊕ Int)) (i_1 : Int) : Option (Unit ⊕ Int) :=
  (bif decide (i_1 < (((l_1).length : Nat) : Int)) then (idxL l_1 i_1).bind fun x_1 =>
  (bif (decide (x_1 = a_1)) then some (.inr i_1) else
  rec (w_i64 (i_1 + (1 : Int)))) else
  some (.inl ()))

def R33_at_L1 (F : Nat) (l_1 : List (T_api_Value)) (a_1 : T_api_Value) : Nat → Int → Option (Unit ⊕ Int)
  | 0, _ => none
  | n + 1, i_1 => R33_at_L1_body F l_1 a_1 (R33_at_L1 F l_1 a_1 n) i_1

def R33_at (F : Nat) (l_1 : List (T_api_Value)) (a_1 : T_api_Value) : Option Int :=
  (R33_at_L1 F l_1 a_1 F (0 : Int)).bind fun (o_1 : Unit ⊕ Int) =>
  (match o_1 with
  | (.inl q_1) =>
  some (-1 : Int)
  | (.inr q_2) =>
  some q_2)


def R33_dictionary_L1_body (F : Nat) (l_1 : List (T_api_Value)) (rec : (List Int) → Int → (List T_api_Value) → Option ((List Int) × (List T_api_Value))) (tail_1 : List Int) (i_1 : Int) (row_1 : List T_api_Value) : Option ((List Int) × (List T_api_Value)) :=
  (bif decide (i_1 < (((l_1).length : Nat) : Int)) then (((idxL l_1 i_1).bind fun x_1 => (R33_at F row_1 x_1).bind fun r_1 =>
  (((bif decide (r_1 < (0 : Int)) then (idxL l_1 i_1).bind fun x_2 => (need (((row_1).length + (([x_2] : List T_api_Value)).length) * 32 ≤ 140737488355328)).bind fun _ =>
  some (row_1 ++ ([x_2] : List T_api_Value)) else
  some row_1) : Option (List T_api_Value))).bind fun (o_3 : (List T_api_Value)) =>
  (idxL l_1 i_1).bind fun x_3 => (R33_at F o_3 x_3).bind fun r_2 => (R05_PutInt F tail_1 r_2).bind fun r_3 =>
  some (o_3, r_3) : Option ((List T_api_Value) × (List Int)))).bind fun (o_2 : ((List T_api_Value) × (List Int))) =>
  rec o_2.2 (w_i64 (i_1 + (1 : Int))) o_2.1 else
  some (tail_1, row_1))

def R33_dictionary_L1 (F : Nat) (l_1 : List (T_api_Value)) : Nat → (List Int) → Int → (List T_api_Value) → Option ((List Int) × (List T_api_Value))
  | 0, _, _, _ => none
  | n + 1, tail_1, i_1, row_1 => R33_dictionary_L1_body F l_1 (R33_dictionary_L1 F l_1 n) tail_1 i_1 row_1

def R33_dictionary (F : Nat) (l_1 : List (T_api_Value)) : Option (List (Int)) :=
  (R33_dictionary_L1 F l_1 F [] (0 : Int) []).bind fun (o_1 : ((List Int) × (List T_api_Value))) =>
  (R05_PutInt F [] (((o_1.2).length : Nat) : Int)).bind fun r_4 => (R33_plain F o_1.2).bind fun r_5 => (need (((r_4).length + (r_5).length) * 1 ≤ 140737488355328)).bind fun _ =>
  (need ((((r_4 ++ r_5)).length + (o_1.1).length) * 1 ≤ 140737488355328)).bind fun _ =>
  some ((r_4 ++ r_5) ++ o_1.1)


def R33_Encode_L1_body (F : Nat) (k_1 : Int) (l_1 : List (T_api_Value)) (rec : Int → Option (Unit ⊕ (T_api_Packed × Int))) (i_1 : Int) : Option (Unit ⊕ (T_api_Packed × Int)) :=
  (bif decide (i_1 < (((l_1).length : Nat) : Int)) then (idxL l_1 i_1).bind fun x_1 => (R33_Value k_1 x_1).bind fun r_1 =>
  (bif (r_1 != (0 : Int)) then some (.inr ((⟨(0 : Int), (0 : Int), []⟩ : T_api_Packed), r_1)) else
  rec (w_i64 (i_1 + (1 : Int)))) else
  some (.inl ()))

def R33_Encode_L1 (F : Nat) (k_1 : Int) (l_1 : List (T_api_Value)) : Nat → Int → Option (Unit ⊕ (T_api_Packed × Int))
  | 0, _ => none
  | n + 1, i_1 => R33_Encode_L1_body F k_1 l_1 (R33_Encode_L1 F k_1 l_1 n) i_1

def R33_Encode (F : Nat) (k_1 : Int) (l_1 : List (T_api_Value)) : Option (T_api_Packed × Int) :=
  (bif (decide (k_1 < (1 : Int)) || decide (k_1 > (3 : Int))) then some ((⟨(0 : Int), (0 : Int), []⟩ : T_api_Packed), (1 : Int)) else
  (bif decide ((((l_1).length : Nat) : Int) > (20000 : Int)) then some ((⟨(0 : Int), (0 : Int), []⟩ : T_api_Packed), (7 : Int)) else
  (R33_Encode_L1 F k_1 l_1 F (0 : Int)).bind fun (o_1 : Unit ⊕ (T_api_Packed × Int)) =>
  (match o_1 with
  | (.inl q_1) =>
  (R33_plain F l_1).bind fun r_2 => (need (((([(0 : Int)] : List Int)).length + (r_2).length) * 1 ≤ 140737488355328)).bind fun _ =>
  (R33_runs F l_1).bind fun r_3 => (need (((([(1 : Int)] : List Int)).length + (r_3).length) * 1 ≤ 140737488355328)).bind fun _ =>
  (((bif decide (((((([(1 : Int)] : List Int) ++ r_3)).length : Nat) : Int) < ((((([(0 : Int)] : List Int) ++ r_2)).length : Nat) : Int)) then some (([(1 : Int)] : List Int) ++ r_3) else
  some (([(0 : Int)] : List Int) ++ r_2)) : Option (List Int))).bind fun (o_2 : (List Int)) =>
  (R33_differences F k_1 l_1).bind fun r_4 =>
  (((bif (r_4.2 && decide ((w_i64 ((((r_4.1).length : Nat) : Int) + (1 : Int))) < (((o_2).length : Nat) : Int))) then (need (((([(2 : Int)] : List Int)).length + (r_4.1).length) * 1 ≤ 140737488355328)).bind fun _ =>
  some (([(2 : Int)] : List Int) ++ r_4.1) else
  some o_2) : Option (List Int))).bind fun (o_3 : (List Int)) =>
  (R33_dictionary F l_1).bind fun r_5 => (need (((([(3 : Int)] : List Int)).length + (r_5).length) * 1 ≤ 140737488355328)).bind fun _ =>
  (((bif decide (((((([(3 : Int)] : List Int) ++ r_5)).length : Nat) : Int) < (((o_3).length : Nat) : Int)) then some (([(3 : Int)] : List Int) ++ r_5) else
  some o_3) : Option (List Int))).bind fun (o_4 : (List Int)) =>
  some ((⟨k_1, (((l_1).length : Nat) : Int), o_4⟩ : T_api_Packed), (0 : Int))
  | (.inr q_2) =>
  some q_2)))


def R33_Same_L1_body (F : Nat) (a_1 : List (T_api_Value)) (b_1 : List (T_api_Value)) (rec : Int → Option (Unit ⊕ Bool)) (i_1 : Int) : Option (Unit ⊕ Bool) :=
  (bif decide (i_1 < (((a_1).length : Nat) : Int)) then (idxL a_1 i_1).bind fun x_1 => (idxL b_1 i_1).bind fun x_2 =>
  (bif (!(decide (x_1 = x_2))) then some (.inr false) else
  rec (w_i64 (i_1 + (1 : Int)))) else
  some (.inl ()))

def R33_Same_L1 (F : Nat) (a_1 : List (T_api_Value)) (b_1 : List (T_api_Value)) : Nat → Int → Option (Unit ⊕ Bool)
  | 0, _ => none
  | n + 1, i_1 => R33_Same_L1_body F a_1 b_1 (R33_Same_L1 F a_1 b_1 n) i_1

def R33_Same (F : Nat) (a_1 : List (T_api_Value)) (b_1 : List (T_api_Value)) : Option Bool :=
  (bif ((((a_1).length : Nat) : Int) != (((b_1).length : Nat) : Int)) then some false else
  (R33_Same_L1 F a_1 b_1 F (0 : Int)).bind fun (o_1 : Unit ⊕ Bool) =>
  (match o_1 with
  | (.inl q_1) =>
  some true
  | (.inr q_2) =>
  some q_2))


def L33_ColumnEncodes (F : Nat) (k_1 : Int) (l_1 : List (T_api_Value)) : Option Bool :=
  (((L33_awake F).bind fun r_1 => bif !r_1 then ( some true) else ((L33_few F l_1).bind fun r_2 => some (!r_2)))).bind fun (p_1 : Bool) =>
  (bif p_1 then (L33_awake F).bind fun r_3 =>
  some r_3 else
  (column_Encode F k_1 l_1).bind fun r_4 =>
  (R33_Encode F k_1 l_1).bind fun r_5 =>
  (bif ((r_4.2 != r_5.2) || ((r_4.1.Type_ != r_5.1.Type_) || ((r_4.1.N != r_5.1.N) || !(r_4.1.Bytes == r_5.1.Bytes)))) then some false else
  (bif (r_4.2 != (0 : Int)) then some true else
  (column_Decode F r_4.1).bind fun r_6 =>
  (column_Coding F r_4.1).bind fun r_7 =>
  (( bif (r_6.2 == (0 : Int)) then ( bif (r_7.2 == (0 : Int)) then ((R33_Same F r_6.1 l_1).bind fun r_8 => bif r_8 then ((idxL r_4.1.Bytes (0 : Int)).bind fun x_1 => some (r_7.1 == (w_i64 x_1))) else ( some false)) else ( some false)) else ( some false))).bind fun (p_2 : Bool) =>
  some p_2)))


def R05_integer (u_1 : Int) : Option Int :=
  (bif ((irem u_1 (2 : Int)) == (1 : Int)) then some (w_i64 ((w_i64 (0 - (w_i64 (iquo .u64 u_1 (2 : Int))))) - (1 : Int))) else
  some (w_i64 (iquo .u64 u_1 (2 : Int))))


def R05_Int_L1_body (F : Nat) (b_1 : List (Int)) (rec : Int → Int → Int → Option (Unit ⊕ (Int × Int × Int))) (u_1 : Int) (unit_1 : Int) (i_1 : Int) : Option (Unit ⊕ (Int × Int × Int)) :=
  (bif decide (i_1 < (10 : Int)) then (bif decide (i_1 ≥ (((b_1).length : Nat) : Int)) then some (.inr ((0 : Int), (0 : Int), (8 : Int))) else
  (idxL b_1 i_1).bind fun x_1 =>
  (bif ((i_1 == (9 : Int)) && decide ((w_u64 x_1) > (1 : Int))) then some (.inr ((0 : Int), (0 : Int), (10 : Int))) else
  (bif (decide ((w_u64 x_1) < (128 : Int)) && (((w_u64 x_1) == (0 : Int)) && decide (i_1 > (0 : Int)))) then some (.inr ((0 : Int), (0 : Int), (10 : Int))) else
  (bif decide ((w_u64 x_1) < (128 : Int)) then (R05_integer (w_u64 (u_1 + (w_u64 ((irem (w_u64 x_1) (128 : Int)) * unit_1))))).bind fun r_1 =>
  some (.inr (r_1, w_i64 (i_1 + (1 : Int)), (0 : Int))) else
  rec (w_u64 (u_1 + (w_u64 ((irem (w_u64 x_1) (128 : Int)) * unit_1)))) (w_u64 (unit_1 * (128 : Int))) (w_i64 (i_1 + (1 : Int))))))) else
  some (.inl ()))

def R05_Int_L1 (F : Nat) (b_1 : List (Int)) : Nat → Int → Int → Int → Option (Unit ⊕ (Int × Int × Int))
  | 0, _, _, _ => none
  | n + 1, u_1, unit_1, i_1 => R05_Int_L1_body F b_1 (R05_Int_L1 F b_1 n) u_1 unit_1 i_1

def R05_Int (F : Nat) (b_1 : List (Int)) : Option (Int × Int × Int) :=
  (R05_Int_L1 F b_1 F (0 : Int) (1 : Int) (0 : Int)).bind fun (o_1 : Unit ⊕ (Int × Int × Int)) =>
  (match o_1 with
  | (.inl q_1) =>
  some ((0 : Int), (0 : Int), (10 : Int))
  | (.inr q_2) =>
  some q_2)


def R05_Text (F : Nat) (b_1 : List (Int)) (most_1 : Int) : Option ((List Int) × Int × Int) :=
  (R05_Int F b_1).bind fun r_1 =>
  (bif (r_1.2.2 != (0 : Int)) then some (([] : List Int), (0 : Int), r_1.2.2) else
  (bif decide (r_1.1 < (0 : Int)) then some (([] : List Int), (0 : Int), (10 : Int)) else
  (bif decide (r_1.1 > most_1) then some (([] : List Int), (0 : Int), (7 : Int)) else
  (bif decide (r_1.1 > (w_i64 ((((b_1).length : Nat) : Int) - r_1.2.1))) then some (([] : List Int), (0 : Int), (8 : Int)) else
  (need ((0 : Int) ≤ r_1.2.1 ∧ r_1.2.1 ≤ (w_i64 (r_1.2.1 + r_1.1)) ∧ (w_i64 (r_1.2.1 + r_1.1)) ≤ (((b_1).length : Nat) : Int))).bind fun _ =>
  some (sub b_1 r_1.2.1 (w_i64 (r_1.2.1 + r_1.1)), w_i64 (r_1.2.1 + r_1.1), (0 : Int))))))


def R33_value (F : Nat) (b_1 : List (Int)) : Option (T_api_Value × Int) :=
  (( bif ((((b_1).length : Nat) : Int) == (0 : Int)) then ( some true) else ((idxL b_1 (0 : Int)).bind fun x_1 => some (decide (x_1 > (3 : Int)))))).bind fun (p_1 : Bool) =>
  (bif p_1 then some ((⟨(0 : Int), (0 : Int), ([] : List Int)⟩ : T_api_Value), (0 : Int)) else
  (idxL b_1 (0 : Int)).bind fun x_2 =>
  (bif ((w_i64 x_2) == (0 : Int)) then some ((⟨w_i64 x_2, (0 : Int), ([] : List Int)⟩ : T_api_Value), (1 : Int)) else
  (bif ((w_i64 x_2) == (3 : Int)) then (need ((1 : Int) ≤ (((b_1).length : Nat) : Int))).bind fun _ => (R05_Text F (sub b_1 (1 : Int) (((b_1).length : Nat) : Int)) (200 : Int)).bind fun r_1 =>
  (bif (r_1.2.2 != (0 : Int)) then some ((⟨(0 : Int), (0 : Int), ([] : List Int)⟩ : T_api_Value), (0 : Int)) else
  some ((⟨w_i64 x_2, (0 : Int), r_1.1⟩ : T_api_Value), w_i64 (r_1.2.1 + (1 : Int)))) else
  (need ((1 : Int) ≤ (((b_1).length : Nat) : Int))).bind fun _ => (R05_Int F (sub b_1 (1 : Int) (((b_1).length : Nat) : Int))).bind fun r_2 =>
  (bif (r_2.2.2 != (0 : Int)) then some ((⟨(0 : Int), (0 : Int), ([] : List Int)⟩ : T_api_Value), (0 : Int)) else
  some ((⟨w_i64 x_2, r_2.1, ([] : List Int)⟩ : T_api_Value), w_i64 (r_2.2.1 + (1 : Int)))))))


def R33_unpack_L1_body (F : Nat) (p_1 : T_api_Packed) (r_1 : Int × Int × Int) (rec : (List Int) → Int → (List T_api_Value) → Option ((List Int) × (List T_api_Value))) (b_1 : List Int) (i_1 : Int) (row_1 : List T_api_Value) : Option ((List Int) × (List T_api_Value)) :=
  (bif (decide (i_1 < r_1.1) && decide (i_1 < p_1.N)) then (R33_value F b_1).bind fun r_2 =>
  (need (((row_1).length + (([r_2.1] : List T_api_Value)).length) * 32 ≤ 140737488355328)).bind fun _ =>
  (need ((0 : Int) ≤ r_2.2 ∧ r_2.2 ≤ (((b_1).length : Nat) : Int))).bind fun _ =>
  rec (sub b_1 r_2.2 (((b_1).length : Nat) : Int)) (w_i64 (i_1 + (1 : Int))) (row_1 ++ ([r_2.1] : List T_api_Value)) else
  some (b_1, row_1))

def R33_unpack_L1 (F : Nat) (p_1 : T_api_Packed) (r_1 : Int × Int × Int) : Nat → (List Int) → Int → (List T_api_Value) → Option ((List Int) × (List T_api_Value))
  | 0, _, _, _ => none
  | n + 1, b_1, i_1, row_1 => R33_unpack_L1_body F p_1 r_1 (R33_unpack_L1 F p_1 r_1 n) b_1 i_1 row_1

def R33_unpack_L3_body (F : Nat) (p_1 : T_api_Packed) (r_4 : Int × Int × Int) (r_5 : T_api_Value × Int) (rec : Int → (List T_api_Value) → Option (List T_api_Value)) (j_1 : Int) (row_3 : List T_api_Value) : Option (List T_api_Value) :=
  (bif (decide (j_1 < r_4.1) && decide ((((row_3).length : Nat) : Int) < p_1.N)) then (need (((row_3).length + (([r_5.1] : List T_api_Value)).length) * 32 ≤ 140737488355328)).bind fun _ =>
  rec (w_i64 (j_1 + (1 : Int))) (row_3 ++ ([r_5.1] : List T_api_Value)) else
  some row_3)

def R33_unpack_L3 (F : Nat) (p_1 : T_api_Packed) (r_4 : Int × Int × Int) (r_5 : T_api_Value × Int) : Nat → Int → (List T_api_Value) → Option (List T_api_Value)
  | 0, _, _ => none
  | n + 1, j_1, row_3 => R33_unpack_L3_body F p_1 r_4 r_5 (R33_unpack_L3 F p_1 r_4 r_5 n) j_1 row_3

def R33_unpack_L2_body (F : Nat) (p_1 : T_api_Packed) (q_1 : (List Int) × (List T_api_Value)) (rec : (List Int) → (List T_api_Value) → Option ((List T_api_Value) ⊕ (List (T_api_Value)))) (b_2 : List Int) (row_2 : List T_api_Value) : Option ((List T_api_Value) ⊕ (List (T_api_Value))) :=
  (bif (decide ((((row_2).length : Nat) : Int) < p_1.N) && decide ((((b_2).length : Nat) : Int) > (0 : Int))) then (idxL p_1.Bytes (0 : Int)).bind fun x_2 =>
  (bif (x_2 == (0 : Int)) then (R33_value F b_2).bind fun r_3 =>
  (bif (r_3.2 == (0 : Int)) then some (.inr []) else
  (need (((row_2).length + (([r_3.1] : List T_api_Value)).length) * 32 ≤ 140737488355328)).bind fun _ =>
  (need ((0 : Int) ≤ r_3.2 ∧ r_3.2 ≤ (((b_2).length : Nat) : Int))).bind fun _ =>
  rec (sub b_2 r_3.2 (((b_2).length : Nat) : Int)) (row_2 ++ ([r_3.1] : List T_api_Value))) else
  (R05_Int F b_2).bind fun r_4 =>
  (bif (r_4.2.2 != (0 : Int)) then some (.inr []) else
  (need ((0 : Int) ≤ r_4.2.1 ∧ r_4.2.1 ≤ (((b_2).length : Nat) : Int))).bind fun _ =>
  (idxL p_1.Bytes (0 : Int)).bind fun x_3 =>
  (bif (x_3 == (2 : Int)) then (((bif decide ((((row_2).length : Nat) : Int) > (0 : Int)) then (idxL row_2 (w_i64 ((((row_2).length : Nat) : Int) - (1 : Int)))).bind fun x_4 =>
  some (w_i64 (r_4.1 + x_4.N)) else
  some r_4.1) : Option Int)).bind fun (o_4 : Int) =>
  (need (((row_2).length + (([(⟨p_1.Type_, o_4, ([] : List Int)⟩ : T_api_Value)] : List T_api_Value)).length) * 32 ≤ 140737488355328)).bind fun _ =>
  rec (sub b_2 r_4.2.1 (((b_2).length : Nat) : Int)) (row_2 ++ ([(⟨p_1.Type_, o_4, ([] : List Int)⟩ : T_api_Value)] : List T_api_Value)) else
  (idxL p_1.Bytes (0 : Int)).bind fun x_5 =>
  (bif (x_5 == (3 : Int)) then (bif (decide (r_4.1 < (0 : Int)) || decide (r_4.1 ≥ (((q_1.2).length : Nat) : Int))) then some (.inr []) else
  (idxL q_1.2 r_4.1).bind fun x_6 => (need (((row_2).length + (([x_6] : List T_api_Value)).length) * 32 ≤ 140737488355328)).bind fun _ =>
  rec (sub b_2 r_4.2.1 (((b_2).length : Nat) : Int)) (row_2 ++ ([x_6] : List T_api_Value))) else
  (R33_value F (sub b_2 r_4.2.1 (((b_2).length : Nat) : Int))).bind fun r_5 =>
  (bif (r_5.2 == (0 : Int)) then some (.inr []) else
  (R33_unpack_L3 F p_1 r_4 r_5 F (0 : Int) row_2).bind fun (o_5 : (List T_api_Value)) =>
  (need ((0 : Int) ≤ r_5.2 ∧ r_5.2 ≤ (((sub b_2 r_4.2.1 (((b_2).length : Nat) : Int)).length : Nat) : Int))).bind fun _ =>
  rec (sub (sub b_2 r_4.2.1 (((b_2).length : Nat) : Int)) r_5.2 (((sub b_2 r_4.2.1 (((b_2).length : Nat) : Int)).length : Nat) : Int)) o_5))))) else
  some (.inl row_2))

def R33_unpack_L2 (F : Nat) (p_1 : T_api_Packed) (q_1 : (List Int) × (List T_api_Value)) : Nat → (List Int) → (List T_api_Value) → Option ((List T_api_Value) ⊕ (List (T_api_Value)))
  | 0, _, _ => none
  | n + 1, b_2, row_2 => R33_unpack_L2_body F p_1 q_1 (R33_unpack_L2 F p_1 q_1 n) b_2 row_2

def R33_unpack (F : Nat) (p_1 : T_api_Packed) : Option (List (T_api_Value)) :=
  (bif ((((p_1.Bytes).length : Nat) : Int) == (0 : Int)) then some [] else
  (need ((1 : Int) ≤ (((p_1.Bytes).length : Nat) : Int))).bind fun _ =>
  (idxL p_1.Bytes (0 : Int)).bind fun x_1 =>
  (((bif (x_1 == (3 : Int)) then (R05_Int F (sub p_1.Bytes (1 : Int) (((p_1.Bytes).length : Nat) : Int))).bind fun r_1 =>
  (bif (r_1.2.2 != (0 : Int)) then some (.inr []) else
  (need ((0 : Int) ≤ r_1.2.1 ∧ r_1.2.1 ≤ (((sub p_1.Bytes (1 : Int) (((p_1.Bytes).length : Nat) : Int)).length : Nat) : Int))).bind fun _ =>
  (R33_unpack_L1 F p_1 r_1 F (sub (sub p_1.Bytes (1 : Int) (((p_1.Bytes).length : Nat) : Int)) r_1.2.1 (((sub p_1.Bytes (1 : Int) (((p_1.Bytes).length : Nat) : Int)).length : Nat) : Int)) (0 : Int) []).bind fun (o_2 : ((List Int) × (List T_api_Value))) =>
  some (.inl (o_2.1, o_2.2))) else
  some (.inl (sub p_1.Bytes (1 : Int) (((p_1.Bytes).length : Nat) : Int), []))) : Option (((List Int) × (List T_api_Value)) ⊕ (List (T_api_Value))))).bind fun (o_1 : ((List Int) × (List T_api_Value)) ⊕ (List (T_api_Value))) =>
  (match o_1 with
  | (.inl q_1) =>
  (R33_unpack_L2 F p_1 q_1 F q_1.1 []).bind fun (o_3 : (List T_api_Value) ⊕ (List (T_api_Value))) =>
  (match o_3 with
  | (.inl q_3) =>
  some q_3
  | (.inr q_4) =>
  some q_4)
  | (.inr q_2) =>
  some q_2))


def R33_Decode (F : Nat) (p_1 : T_api_Packed) : Option ((List (T_api_Value)) × Int) :=
  (bif (decide (p_1.Type_ < (1 : Int)) || decide (p_1.Type_ > (3 : Int))) then some ([], (1 : Int)) else
  (bif decide (p_1.N > (20000 : Int)) then some ([], (7 : Int)) else
  (R33_unpack F p_1).bind fun r_1 =>
  (R33_Encode F p_1.Type_ r_1).bind fun r_2 =>
  (bif ((r_2.2 != (0 : Int)) || ((r_2.1.N != p_1.N) || !(r_2.1.Bytes == p_1.Bytes))) then some ([], (10 : Int)) else
  some (r_1, (0 : Int)))))


def R33_Coding (F : Nat) (p_1 : T_api_Packed) : Option (Int × Int) :=
  (R33_Decode F p_1).bind fun r_1 =>
  (bif (r_1.2 != (0 : Int)) then some ((0 : Int), r_1.2) else
  (idxL p_1.Bytes (0 : Int)).bind fun x_1 =>
  some (w_i64 x_1, (0 : Int)))


def L33_ColumnDecodes (F : Nat) (p_1 : T_api_Packed) : Option Bool :=
  (((L33_awake F).bind fun r_1 => bif !r_1 then ( some true) else ( bif decide (p_1.N > (60 : Int)) then ( bif decide (p_1.N ≤ (20000 : Int)) then ( some true) else ( some (decide ((((p_1.Bytes).length : Nat) : Int) > (600 : Int))))) else ( some (decide ((((p_1.Bytes).length : Nat) : Int) > (600 : Int))))))).bind fun (p_2 : Bool) =>
  (bif p_2 then (L33_awake F).bind fun r_2 =>
  some r_2 else
  (column_Decode F p_1).bind fun r_3 =>
  (R33_Decode F p_1).bind fun r_4 =>
  (column_Coding F p_1).bind fun r_5 =>
  (R33_Coding F p_1).bind fun r_6 =>
  (( bif (r_3.2 != r_4.2) then ( some true) else ((R33_Same F r_3.1 r_4.1).bind fun r_7 => bif !r_7 then ( some true) else ( bif (r_5.2 != r_6.2) then ( some true) else ( some (r_5.1 != r_6.1)))))).bind fun (p_3 : Bool) =>
  (bif p_3 then some false else
  (bif (r_3.2 != (0 : Int)) then some true else
  (column_Encode F p_1.Type_ r_3.1).bind fun r_8 =>
  some ((r_8.2 == (0 : Int)) && ((r_8.1.Type_ == p_1.Type_) && ((r_8.1.N == p_1.N) && (r_8.1.Bytes == p_1.Bytes)))))))


def L33_ColumnShort_L1_body (F : Nat) (l_1 : List (T_api_Value)) (rec : Int → Int → Option Int) (sum_1 : Int) (i_1 : Int) : Option Int :=
  (bif decide (i_1 < (((l_1).length : Nat) : Int)) then (((idxL l_1 i_1).bind fun x_1 =>
  (((bif (x_1.Kind == (3 : Int)) then (idxL l_1 i_1).bind fun x_2 =>
  some (w_i64 ((w_i64 ((w_i64 (sum_1 + (1 : Int))) + (2 : Int))) + (((x_2.S).length : Nat) : Int))) else
  some (w_i64 (sum_1 + (1 : Int)))) : Option Int)).bind fun (o_3 : Int) =>
  (((idxL l_1 i_1).bind fun x_3 => bif (x_3.Kind == (1 : Int)) then ( some true) else ((idxL l_1 i_1).bind fun x_4 => some (x_4.Kind == (2 : Int))))).bind fun (p_2 : Bool) =>
  (bif p_2 then some (w_i64 (o_3 + (10 : Int))) else
  some o_3) : Option Int)).bind fun (o_2 : Int) =>
  rec o_2 (w_i64 (i_1 + (1 : Int))) else
  some sum_1)

def L33_ColumnShort_L1 (F : Nat) (l_1 : List (T_api_Value)) : Nat → Int → Int → Option Int
  | 0, _, _ => none
  | n + 1, sum_1, i_1 => L33_ColumnShort_L1_body F l_1 (L33_ColumnShort_L1 F l_1 n) sum_1 i_1

def L33_ColumnShort (F : Nat) (k_1 : Int) (l_1 : List (T_api_Value)) : Option Bool :=
  (((L33_awake F).bind fun r_1 => bif !r_1 then ( some true) else ((L33_few F l_1).bind fun r_2 => some (!r_2)))).bind fun (p_1 : Bool) =>
  (bif p_1 then (L33_awake F).bind fun r_3 =>
  some r_3 else
  (column_Encode F k_1 l_1).bind fun r_4 =>
  (bif (r_4.2 != (0 : Int)) then some true else
  (L33_ColumnShort_L1 F l_1 F (1 : Int) (0 : Int)).bind fun (o_1 : Int) =>
  some (decide ((((r_4.1.Bytes).length : Nat) : Int) ≤ o_1))))


def L33_ColumnRepeats_L1_body (F : Nat) (a_1 : T_api_Value) (n_1 : Int) (rec : Int → (List T_api_Value) → Option (List T_api_Value)) (i_1 : Int) (row_1 : List T_api_Value) : Option (List T_api_Value) :=
  (bif decide (i_1 < (irem (w_i64 n_1) (5000 : Int))) then (need (((row_1).length + (([a_1] : List T_api_Value)).length) * 32 ≤ 140737488355328)).bind fun _ =>
  rec (w_i64 (i_1 + (1 : Int))) (row_1 ++ ([a_1] : List T_api_Value)) else
  some row_1)

def L33_ColumnRepeats_L1 (F : Nat) (a_1 : T_api_Value) (n_1 : Int) : Nat → Int → (List T_api_Value) → Option (List T_api_Value)
  | 0, _, _ => none
  | n + 1, i_1, row_1 => L33_ColumnRepeats_L1_body F a_1 n_1 (L33_ColumnRepeats_L1 F a_1 n_1 n) i_1 row_1

def L33_ColumnRepeats (F : Nat) (k_1 : Int) (a_1 : T_api_Value) (n_1 : Int) : Option Bool :=
  (((L33_awake F).bind fun r_1 => bif !r_1 then ( some true) else ( bif decide ((((a_1.S).length : Nat) : Int) > (300 : Int)) then ( some true) else ((column_Value k_1 a_1).bind fun r_2 => some (r_2 != (0 : Int)))))).bind fun (p_1 : Bool) =>
  (bif p_1 then (L33_awake F).bind fun r_3 =>
  some r_3 else
  (column_Encode F k_1 ([a_1, (⟨(0 : Int), (0 : Int), ([] : List Int)⟩ : T_api_Value), a_1] : List T_api_Value)).bind fun r_4 =>
  (L33_ColumnRepeats_L1 F a_1 n_1 F (0 : Int) []).bind fun (o_1 : (List T_api_Value)) =>
  (column_Encode F k_1 o_1).bind fun r_5 =>
  (bif ((r_4.2 == (1 : Int)) && (r_5.2 == (1 : Int))) then some true else
  (((bif (a_1.Kind == (3 : Int)) then some (w_i64 ((w_i64 ((5 : Int) + (2 : Int))) + (((a_1.S).length : Nat) : Int))) else
  some (5 : Int)) : Option Int)).bind fun (o_2 : Int) =>
  (((bif ((a_1.Kind == (1 : Int)) || (a_1.Kind == (2 : Int))) then some (w_i64 (o_2 + (10 : Int))) else
  some o_2) : Option Int)).bind fun (o_3 : Int) =>
  (column_Decode F r_5.1).bind fun r_6 =>
  some ((r_4.2 == (0 : Int)) && ((r_5.2 == (0 : Int)) && (decide ((((r_4.1.Bytes).length : Nat) : Int) > (0 : Int)) && (decide ((((r_5.1.Bytes).length : Nat) : Int) ≤ o_3) && ((r_6.2 == (0 : Int)) && ((((r_6.1).length : Nat) : Int) == (((o_1).length : Nat) : Int)))))))))


end Go.Ab
