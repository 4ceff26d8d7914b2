/- Printed: the typed Lean functions of the Go functions, or the proofs that the Go functions meet them. No conditions but those that the theorems name. -/
import Derived.Test.YtngjbadoekamcaaA35
namespace Go.Ab
open Go
set_option linter.unusedVariables false

structure Arr2_Int where
  c0 : Int
  c1 : Int
  deriving DecidableEq, Inhabited
def e_Arr2_Int (s : Arr2_Int) : AV := .agg [.int .i64 s.c0, .int .i64 s.c1]

structure T_tracebooklaw06_Tables where
  Names : List (List Int)
  Stacks : List (Arr2_Int)
  deriving DecidableEq, Inhabited
def e_T_tracebooklaw06_Tables (s : T_tracebooklaw06_Tables) : AV := .agg [.sl false 1 (List.map AV.str s.Names), .sl false 2 (List.map e_Arr2_Int s.Stacks)]

def L06_small (t_1 : T_tracebooklaw06_Tables) : Option Bool :=
  some (decide ((((t_1.Names).length : Nat) : Int) ≤ (1100 : Int)) && decide ((((t_1.Stacks).length : Nat) : Int) ≤ (1100 : Int)))


def stringslite_IndexByte (s_1 : List Int) (c_1 : Int) : Option Int :=
  some (idxByte s_1 c_1)


def strings_IndexByte (s_1 : List Int) (c_1 : Int) : Option Int :=
  (stringslite_IndexByte s_1 c_1).bind fun r_1 =>
  some r_1


def intern_letter (c_1 : Int) : Option Bool :=
  (( bif decide (c_1 ≥ (97 : Int)) then ( bif decide (c_1 ≤ (122 : Int)) then ( some true) else ( bif decide (c_1 ≥ (65 : Int)) then ( bif decide (c_1 ≤ (90 : Int)) then ( some true) else ( bif decide (c_1 ≥ (48 : Int)) then ( bif decide (c_1 ≤ (57 : Int)) then ( some true) else ((strings_IndexByte ([95, 46, 58, 47, 60, 62, 36, 42, 126, 45] : List Int) c_1).bind fun r_1 => some (decide (r_1 ≥ (0 : Int))))) else ((strings_IndexByte ([95, 46, 58, 47, 60, 62, 36, 42, 126, 45] : List Int) c_1).bind fun r_1 => some (decide (r_1 ≥ (0 : Int)))))) else ( bif decide (c_1 ≥ (48 : Int)) then ( bif decide (c_1 ≤ (57 : Int)) then ( some true) else ((strings_IndexByte ([95, 46, 58, 47, 60, 62, 36, 42, 126, 45] : List Int) c_1).bind fun r_1 => some (decide (r_1 ≥ (0 : Int))))) else ((strings_IndexByte ([95, 46, 58, 47, 60, 62, 36, 42, 126, 45] : List Int) c_1).bind fun r_1 => some (decide (r_1 ≥ (0 : Int))))))) else ( bif decide (c_1 ≥ (65 : Int)) then ( bif decide (c_1 ≤ (90 : Int)) then ( some true) else ( bif decide (c_1 ≥ (48 : Int)) then ( bif decide (c_1 ≤ (57 : Int)) then ( some true) else ((strings_IndexByte ([95, 46, 58, 47, 60, 62, 36, 42, 126, 45] : List Int) c_1).bind fun r_1 => some (decide (r_1 ≥ (0 : Int))))) else ((strings_IndexByte ([95, 46, 58, 47, 60, 62, 36, 42, 126, 45] : List Int) c_1).bind fun r_1 => some (decide (r_1 ≥ (0 : Int)))))) else ( bif decide (c_1 ≥ (48 : Int)) then ( bif decide (c_1 ≤ (57 : Int)) then ( some true) else ((strings_IndexByte ([95, 46, 58, 47, 60, 62, 36, 42, 126, 45] : List Int) c_1).bind fun r_1 => some (decide (r_1 ≥ (0 : Int))))) else ((strings_IndexByte ([95, 46, 58, 47, 60, 62, 36, 42, 126, 45] : List Int) c_1).bind fun r_1 => some (decide (r_1 ≥ (0 : Int)))))))).bind fun (p_1 : Bool) =>
  some p_1


def intern_Name_L1_body (F : Nat) (s_1 : List Int) (rec : Int → Option (Unit ⊕ Int)) (v_1 : Int) : Option (Unit ⊕ Int) :=
  (bif decide (v_1 < (((s_1).length : Nat) : Int)) then (idxL s_1 v_1).bind fun c_1 => (intern_letter c_1).bind fun r_1 =>
  (bif !r_1 then some (.inr (3 : Int)) else
  rec (w_i64 (v_1 + (1 : Int)))) else
  some (.inl ()))

def intern_Name_L1 (F : Nat) (s_1 : List Int) : Nat → Int → Option (Unit ⊕ Int)
  | 0, _ => none
  | n + 1, v_1 => intern_Name_L1_body F s_1 (intern_Name_L1 F s_1 n) v_1

def intern_Name (F : Nat) (s_1 : List Int) : Option Int :=
  (bif ((s_1 == ([] : List Int)) || decide ((((s_1).length : Nat) : Int) > (40 : Int))) then some (3 : Int) else
  (intern_Name_L1 F s_1 F (0 : Int)).bind fun (o_1 : Unit ⊕ Int) =>
  (match o_1 with
  | (.inl q_1) =>
  some (0 : Int)
  | (.inr q_2) =>
  some q_2))


def intern_Frames_L1_body (F : Nat) (l_1 : List (List Int)) (rec : Int → Option (Unit ⊕ Int)) (v_1 : Int) : Option (Unit ⊕ Int) :=
  (bif decide (v_1 < (((l_1).length : Nat) : Int)) then (idxL l_1 v_1).bind fun x_1 =>
  (intern_Name F x_1).bind fun r_1 =>
  (bif (r_1 != (0 : Int)) then some (.inr r_1) else
  rec (w_i64 (v_1 + (1 : Int)))) else
  some (.inl ()))

def intern_Frames_L1 (F : Nat) (l_1 : List (List Int)) : Nat → Int → Option (Unit ⊕ Int)
  | 0, _ => none
  | n + 1, v_1 => intern_Frames_L1_body F l_1 (intern_Frames_L1 F l_1 n) v_1

def intern_Frames (F : Nat) (l_1 : List (List Int)) : Option Int :=
  (bif decide ((((l_1).length : Nat) : Int) > (32 : Int)) then some (7 : Int) else
  (intern_Frames_L1 F l_1 F (0 : Int)).bind fun (o_1 : Unit ⊕ Int) =>
  (match o_1 with
  | (.inl q_1) =>
  some (0 : Int)
  | (.inr q_2) =>
  some q_2))


def slices_Clone_2_int_2_int (s_1 : List (Arr2_Int)) : Option (List (Arr2_Int)) :=
  (need (((([] : List Arr2_Int)).length + (s_1).length) * 16 ≤ 140737488355328)).bind fun _ =>
  some ([] ++ s_1)


def slices_Index_string_string_L1_body (F : Nat) (s_1 : List (List Int)) (a_1 : List Int) (rec : Int → Option (Unit ⊕ Int)) (v_1 : Int) : Option (Unit ⊕ Int) :=
  (bif decide (v_1 < (((s_1).length : Nat) : Int)) then (idxL s_1 v_1).bind fun x_1 =>
  (bif (a_1 == x_1) then some (.inr v_1) else
  rec (w_i64 (v_1 + (1 : Int)))) else
  some (.inl ()))

def slices_Index_string_string_L1 (F : Nat) (s_1 : List (List Int)) (a_1 : List Int) : Nat → Int → Option (Unit ⊕ Int)
  | 0, _ => none
  | n + 1, v_1 => slices_Index_string_string_L1_body F s_1 a_1 (slices_Index_string_string_L1 F s_1 a_1 n) v_1

def slices_Index_string_string (F : Nat) (s_1 : List (List Int)) (a_1 : List Int) : Option Int :=
  (slices_Index_string_string_L1 F s_1 a_1 F (0 : Int)).bind fun (o_1 : Unit ⊕ Int) =>
  (match o_1 with
  | (.inl q_1) =>
  some (-1 : Int)
  | (.inr q_2) =>
  some q_2)


def slices_Clone_string_string (s_1 : List (List Int)) : Option (List (List Int)) :=
  (need (((([] : List (List Int))).length + (s_1).length) * 16 ≤ 140737488355328)).bind fun _ =>
  some ([] ++ s_1)


def intern_Put (F : Nat) (names_1 : List (List Int)) (s_1 : List Int) : Option (Int × (List (List Int)) × Int) :=
  (intern_Name F s_1).bind fun r_1 =>
  (bif (r_1 != (0 : Int)) then some ((0 : Int), names_1, r_1) else
  (slices_Index_string_string F names_1 s_1).bind fun r_2 =>
  (bif decide (r_2 ≥ (0 : Int)) then some (r_2, names_1, (0 : Int)) else
  (bif decide ((((names_1).length : Nat) : Int) ≥ (1000 : Int)) then some ((0 : Int), names_1, (6 : Int)) else
  (slices_Clone_string_string names_1).bind fun r_3 => (need (((r_3).length + (([s_1] : List (List Int))).length) * 16 ≤ 140737488355328)).bind fun _ =>
  some ((((names_1).length : Nat) : Int), (r_3 ++ ([s_1] : List (List Int))), (0 : Int)))))


def slices_Index_2_int_2_int_L1_body (F : Nat) (s_1 : List (Arr2_Int)) (a_1 : Arr2_Int) (rec : Int → Option (Unit ⊕ Int)) (v_1 : Int) : Option (Unit ⊕ Int) :=
  (bif decide (v_1 < (((s_1).length : Nat) : Int)) then (idxL s_1 v_1).bind fun x_1 =>
  (bif (decide (a_1 = x_1)) then some (.inr v_1) else
  rec (w_i64 (v_1 + (1 : Int)))) else
  some (.inl ()))

def slices_Index_2_int_2_int_L1 (F : Nat) (s_1 : List (Arr2_Int)) (a_1 : Arr2_Int) : Nat → Int → Option (Unit ⊕ Int)
  | 0, _ => none
  | n + 1, v_1 => slices_Index_2_int_2_int_L1_body F s_1 a_1 (slices_Index_2_int_2_int_L1 F s_1 a_1 n) v_1

def slices_Index_2_int_2_int (F : Nat) (s_1 : List (Arr2_Int)) (a_1 : Arr2_Int) : Option Int :=
  (slices_Index_2_int_2_int_L1 F s_1 a_1 F (0 : Int)).bind fun (o_1 : Unit ⊕ Int) =>
  (match o_1 with
  | (.inl q_1) =>
  some (-1 : Int)
  | (.inr q_2) =>
  some q_2)


def intern_PutStack_L1_body (F : Nat) (names_1 : List (List Int)) (stacks_1 : List (Arr2_Int)) (l_1 : List (List Int)) (rec : Int → (List (List Int)) → Int → (List Arr2_Int) → Option ((Int × (List (List Int)) × (List Arr2_Int)) ⊕ (Int × (List (List Int)) × (List (Arr2_Int)) × Int))) (at__1 : Int) (n_1 : List (List Int)) (v_1 : Int) (row_1 : List Arr2_Int) : Option ((Int × (List (List Int)) × (List Arr2_Int)) ⊕ (Int × (List (List Int)) × (List (Arr2_Int)) × Int)) :=
  (bif decide (v_1 < (((l_1).length : Nat) : Int)) then (idxL l_1 v_1).bind fun x_1 =>
  (intern_Put F n_1 x_1).bind fun r_3 =>
  (bif (r_3.2.2 != (0 : Int)) then some (.inr ((0 : Int), names_1, stacks_1, r_3.2.2)) else
  (slices_Index_2_int_2_int F row_1 (⟨at__1, r_3.1⟩ : Arr2_Int)).bind fun r_4 =>
  (bif decide (r_4 ≥ (0 : Int)) then rec r_4 r_3.2.1 (w_i64 (v_1 + (1 : Int))) row_1 else
  (bif decide ((((row_1).length : Nat) : Int) ≥ (1000 : Int)) then some (.inr ((0 : Int), names_1, stacks_1, (6 : Int))) else
  (need (((row_1).length + (([(⟨at__1, r_3.1⟩ : Arr2_Int)] : List Arr2_Int)).length) * 16 ≤ 140737488355328)).bind fun _ =>
  rec (((row_1).length : Nat) : Int) r_3.2.1 (w_i64 (v_1 + (1 : Int))) (row_1 ++ ([(⟨at__1, r_3.1⟩ : Arr2_Int)] : List Arr2_Int))))) else
  some (.inl (at__1, n_1, row_1)))

def intern_PutStack_L1 (F : Nat) (names_1 : List (List Int)) (stacks_1 : List (Arr2_Int)) (l_1 : List (List Int)) : Nat → Int → (List (List Int)) → Int → (List Arr2_Int) → Option ((Int × (List (List Int)) × (List Arr2_Int)) ⊕ (Int × (List (List Int)) × (List (Arr2_Int)) × Int))
  | 0, _, _, _, _ => none
  | n + 1, at__1, n_1, v_1, row_1 => intern_PutStack_L1_body F names_1 stacks_1 l_1 (intern_PutStack_L1 F names_1 stacks_1 l_1 n) at__1 n_1 v_1 row_1

def intern_PutStack (F : Nat) (names_1 : List (List Int)) (stacks_1 : List (Arr2_Int)) (l_1 : List (List Int)) : Option (Int × (List (List Int)) × (List (Arr2_Int)) × Int) :=
  (intern_Frames F l_1).bind fun r_1 =>
  (bif (r_1 != (0 : Int)) then some ((0 : Int), names_1, stacks_1, r_1) else
  (slices_Clone_2_int_2_int stacks_1).bind fun r_2 =>
  (intern_PutStack_L1 F names_1 stacks_1 l_1 F (-1 : Int) names_1 (0 : Int) r_2).bind fun (o_1 : (Int × (List (List Int)) × (List Arr2_Int)) ⊕ (Int × (List (List Int)) × (List (Arr2_Int)) × Int)) =>
  (match o_1 with
  | (.inl q_1) =>
  some (q_1.1, q_1.2.1, q_1.2.2, (0 : Int))
  | (.inr q_2) =>
  some q_2))


def intern_checkNames_L1_body (F : Nat) (names_1 : List (List Int)) (rec : Int → (List ((List Int) × Bool)) → Option (Unit ⊕ Int)) (v_1 : Int) (row_1 : List ((List Int) × Bool)) : Option (Unit ⊕ Int) :=
  (bif decide (v_1 < (((names_1).length : Nat) : Int)) then (idxL names_1 v_1).bind fun x_1 =>
  (intern_Name F x_1).bind fun r_1 =>
  (bif (r_1 != (0 : Int)) then some (.inr r_1) else
  (bif ((mget row_1 x_1).getD false) then some (.inr (4 : Int)) else
  (need ((row_1).length < 140737488355328)).bind fun _ =>
  rec (w_i64 (v_1 + (1 : Int))) (mput row_1 x_1 true))) else
  some (.inl ()))

def intern_checkNames_L1 (F : Nat) (names_1 : List (List Int)) : Nat → Int → (List ((List Int) × Bool)) → Option (Unit ⊕ Int)
  | 0, _, _ => none
  | n + 1, v_1, row_1 => intern_checkNames_L1_body F names_1 (intern_checkNames_L1 F names_1 n) v_1 row_1

def intern_checkNames (F : Nat) (names_1 : List (List Int)) : Option Int :=
  (intern_checkNames_L1 F names_1 F (0 : Int) []).bind fun (o_1 : Unit ⊕ Int) =>
  (match o_1 with
  | (.inl q_1) =>
  some (0 : Int)
  | (.inr q_2) =>
  some q_2)


def intern_Check_L1_body (F : Nat) (names_1 : List (List Int)) (stacks_1 : List (Arr2_Int)) (rec : Int → (List (Arr2_Int × Bool)) → (List Int) → Option (Unit ⊕ Int)) (v_1 : Int) (row_1 : List (Arr2_Int × Bool)) (row_2 : List Int) : Option (Unit ⊕ Int) :=
  (bif decide (v_1 < (((stacks_1).length : Nat) : Int)) then (idxL stacks_1 v_1).bind fun x_1 =>
  (bif (decide (x_1.c0 < (-1 : Int)) || (decide (x_1.c0 ≥ v_1) || (decide (x_1.c1 < (0 : Int)) || decide (x_1.c1 ≥ (((names_1).length : Nat) : Int))))) then some (.inr (2 : Int)) else
  (bif ((mget row_1 x_1).getD false) then some (.inr (4 : Int)) else
  (need ((row_1).length < 140737488355328)).bind fun _ =>
  (idxL row_2 v_1).bind fun x_2 =>
  (((bif (x_1.c0 != (-1 : Int)) then (idxL ((row_2).set ((v_1).toNat) (1 : Int)) v_1).bind fun x_3 => (idxL ((row_2).set ((v_1).toNat) (1 : Int)) x_1.c0).bind fun x_4 => (idxL ((row_2).set ((v_1).toNat) (1 : Int)) v_1).bind fun x_5 =>
  some (((row_2).set ((v_1).toNat) (1 : Int)).set ((v_1).toNat) (w_i64 (x_3 + x_4))) else
  some ((row_2).set ((v_1).toNat) (1 : Int))) : Option (List Int))).bind fun (o_2 : (List Int)) =>
  (idxL o_2 v_1).bind fun x_6 =>
  (bif decide (x_6 > (32 : Int)) then some (.inr (7 : Int)) else
  rec (w_i64 (v_1 + (1 : Int))) (mput row_1 x_1 true) o_2))) else
  some (.inl ()))

def intern_Check_L1 (F : Nat) (names_1 : List (List Int)) (stacks_1 : List (Arr2_Int)) : Nat → Int → (List (Arr2_Int × Bool)) → (List Int) → Option (Unit ⊕ Int)
  | 0, _, _, _ => none
  | n + 1, v_1, row_1, row_2 => intern_Check_L1_body F names_1 stacks_1 (intern_Check_L1 F names_1 stacks_1 n) v_1 row_1 row_2

def intern_Check (F : Nat) (names_1 : List (List Int)) (stacks_1 : List (Arr2_Int)) : Option Int :=
  (bif (decide ((((names_1).length : Nat) : Int) > (1000 : Int)) || decide ((((stacks_1).length : Nat) : Int) > (1000 : Int))) then some (7 : Int) else
  (intern_checkNames F names_1).bind fun r_1 =>
  (bif (r_1 != (0 : Int)) then some r_1 else
  (need (((stacks_1).length) * 8 ≤ 281474976710656)).bind fun _ =>
  (intern_Check_L1 F names_1 stacks_1 F (0 : Int) [] (List.replicate ((stacks_1).length) (0 : Int))).bind fun (o_1 : Unit ⊕ Int) =>
  (match o_1 with
  | (.inl q_1) =>
  some (0 : Int)
  | (.inr q_2) =>
  some q_2)))


def slices_Reverse_string_string_L1_body (F : Nat) (rec : Int → Int → (List (List Int)) → Option (List (List Int))) (i_1 : Int) (j_1 : Int) (row_1 : List (List Int)) : Option (List (List Int)) :=
  (bif decide (i_1 < j_1) then (idxL row_1 j_1).bind fun x_1 => (idxL row_1 i_1).bind fun x_2 => (idxL row_1 i_1).bind fun x_3 => (idxL ((row_1).set ((i_1).toNat) x_1) j_1).bind fun x_4 =>
  rec (w_i64 (i_1 + (1 : Int))) (w_i64 (j_1 - (1 : Int))) (((row_1).set ((i_1).toNat) x_1).set ((j_1).toNat) x_2) else
  some row_1)

def slices_Reverse_string_string_L1 (F : Nat) : Nat → Int → Int → (List (List Int)) → Option (List (List Int))
  | 0, _, _, _ => none
  | n + 1, i_1, j_1, row_1 => slices_Reverse_string_string_L1_body F (slices_Reverse_string_string_L1 F n) i_1 j_1 row_1

def slices_Reverse_string_string (F : Nat) (s_1 : List (List Int)) : Option (List (List Int)) :=
  (slices_Reverse_string_string_L1 F F (0 : Int) (w_i64 ((((s_1).length : Nat) : Int) - (1 : Int))) s_1).bind fun (o_1 : (List (List Int))) =>
  some o_1


def intern_Stack_L1_body (F : Nat) (names_1 : List (List Int)) (stacks_1 : List (Arr2_Int)) (rec : Int → (List (List Int)) → Option (List (List Int))) (i_2 : Int) (row_1 : List (List Int)) : Option (List (List Int)) :=
  (bif (i_2 != (-1 : Int)) then (idxL stacks_1 i_2).bind fun x_1 => (idxL names_1 x_1.c1).bind fun x_2 => (need (((row_1).length + (([x_2] : List (List Int))).length) * 16 ≤ 140737488355328)).bind fun _ =>
  (idxL stacks_1 i_2).bind fun x_3 =>
  rec x_3.c0 (row_1 ++ ([x_2] : List (List Int))) else
  some row_1)

def intern_Stack_L1 (F : Nat) (names_1 : List (List Int)) (stacks_1 : List (Arr2_Int)) : Nat → Int → (List (List Int)) → Option (List (List Int))
  | 0, _, _ => none
  | n + 1, i_2, row_1 => intern_Stack_L1_body F names_1 stacks_1 (intern_Stack_L1 F names_1 stacks_1 n) i_2 row_1

def intern_Stack (F : Nat) (names_1 : List (List Int)) (stacks_1 : List (Arr2_Int)) (i_1 : Int) : Option ((List (List Int)) × Int) :=
  (intern_Check F names_1 stacks_1).bind fun r_1 =>
  (bif (r_1 != (0 : Int)) then some ([], (1 : Int)) else
  (bif (decide (i_1 < (-1 : Int)) || decide (i_1 ≥ (((stacks_1).length : Nat) : Int))) then some ([], (2 : Int)) else
  (intern_Stack_L1 F names_1 stacks_1 F i_1 []).bind fun (o_1 : (List (List Int))) =>
  (slices_Reverse_string_string F o_1).bind fun r_2 => (need ((r_2).length = (o_1).length)).bind fun _ =>
  some (r_2, (0 : Int))))


def R06_SameStacks_L1_body (F : Nat) (a_1 : List (Arr2_Int)) (b_1 : List (Arr2_Int)) (rec : Int → Option (Unit ⊕ Bool)) (i_1 : Int) : Option (Unit ⊕ Bool) :=
  (bif decide (i_1 < (((a_1).length : Nat) : Int)) then (idxL a_1 i_1).bind fun x_1 => (idxL b_1 i_1).bind fun x_2 =>
  (bif (!(decide (x_1 = x_2))) then some (.inr false) else
  rec (w_i64 (i_1 + (1 : Int)))) else
  some (.inl ()))

def R06_SameStacks_L1 (F : Nat) (a_1 : List (Arr2_Int)) (b_1 : List (Arr2_Int)) : Nat → Int → Option (Unit ⊕ Bool)
  | 0, _ => none
  | n + 1, i_1 => R06_SameStacks_L1_body F a_1 b_1 (R06_SameStacks_L1 F a_1 b_1 n) i_1

def R06_SameStacks (F : Nat) (a_1 : List (Arr2_Int)) (b_1 : List (Arr2_Int)) : Option Bool :=
  (bif ((((a_1).length : Nat) : Int) != (((b_1).length : Nat) : Int)) then some false else
  (R06_SameStacks_L1 F a_1 b_1 F (0 : Int)).bind fun (o_1 : Unit ⊕ Bool) =>
  (match o_1 with
  | (.inl q_1) =>
  some true
  | (.inr q_2) =>
  some q_2))


def R06_SameNames_L1_body (F : Nat) (a_1 : List (List Int)) (b_1 : List (List Int)) (rec : Int → Option (Unit ⊕ Bool)) (i_1 : Int) : Option (Unit ⊕ Bool) :=
  (bif decide (i_1 < (((a_1).length : Nat) : Int)) then (idxL a_1 i_1).bind fun x_1 => (idxL b_1 i_1).bind fun x_2 =>
  (bif !(x_1 == x_2) then some (.inr false) else
  rec (w_i64 (i_1 + (1 : Int)))) else
  some (.inl ()))

def R06_SameNames_L1 (F : Nat) (a_1 : List (List Int)) (b_1 : List (List Int)) : Nat → Int → Option (Unit ⊕ Bool)
  | 0, _ => none
  | n + 1, i_1 => R06_SameNames_L1_body F a_1 b_1 (R06_SameNames_L1 F a_1 b_1 n) i_1

def R06_SameNames (F : Nat) (a_1 : List (List Int)) (b_1 : List (List Int)) : Option Bool :=
  (bif ((((a_1).length : Nat) : Int) != (((b_1).length : Nat) : Int)) then some false else
  (R06_SameNames_L1 F a_1 b_1 F (0 : Int)).bind fun (o_1 : Unit ⊕ Bool) =>
  (match o_1 with
  | (.inl q_1) =>
  some true
  | (.inr q_2) =>
  some q_2))


def L06_awake (F : Nat) : Option Bool :=
  (intern_PutStack F [] [] ([([109, 97, 105, 110] : List Int), ([108, 111, 111, 112] : List Int)] : List (List Int))).bind fun r_1 =>
  (intern_PutStack F r_1.2.1 r_1.2.2.1 ([([109, 97, 105, 110] : List Int), ([119, 97, 105, 116] : List Int)] : List (List Int))).bind fun r_2 =>
  (intern_Stack F r_2.2.1 r_2.2.2.1 (2 : Int)).bind fun r_3 =>
  (intern_Stack F r_2.2.1 r_2.2.2.1 (-1 : Int)).bind fun r_4 =>
  (intern_Stack F r_2.2.1 r_2.2.2.1 (3 : Int)).bind fun r_5 =>
  (intern_Put F ([([97] : List Int), ([98] : List Int)] : List (List Int)) ([98] : List Int)).bind fun r_6 =>
  (intern_Put F ([([97] : List Int), ([98] : List Int)] : List (List Int)) ([99] : List Int)).bind fun r_7 =>
  (( bif (r_1.1 == (1 : Int)) then ( bif (r_1.2.2.2 == (0 : Int)) then ( bif (r_2.1 == (2 : Int)) then ( bif (r_2.2.2.2 == (0 : Int)) then ((R06_SameStacks F r_2.2.2.1 ([(⟨(-1 : Int), (0 : Int)⟩ : Arr2_Int), (⟨(0 : Int), (1 : Int)⟩ : Arr2_Int), (⟨(0 : Int), (2 : Int)⟩ : Arr2_Int)] : List Arr2_Int)).bind fun r_8 => bif r_8 then ((R06_SameNames F r_3.1 ([([109, 97, 105, 110] : List Int), ([119, 97, 105, 116] : List Int)] : List (List Int))).bind fun r_9 => bif r_9 then ( bif (r_3.2 == (0 : Int)) then ( bif ((((r_4.1).length : Nat) : Int) == (0 : Int)) then ( bif (r_4.2 == (0 : Int)) then ( bif (r_5.2 == (2 : Int)) then ( bif (r_6.1 == (1 : Int)) then ( bif ((((r_6.2.1).length : Nat) : Int) == (2 : Int)) then ( bif (r_6.2.2 == (0 : Int)) then ( bif (r_7.1 == (2 : Int)) then ((R06_SameNames F r_7.2.1 ([([97] : List Int), ([98] : List Int), ([99] : List Int)] : List (List Int))).bind fun r_10 => bif r_10 then ( bif (r_7.2.2 == (0 : Int)) then ((intern_Name F ([109, 97, 105, 110, 46, 108, 111, 111, 112, 58, 55] : List Int)).bind fun r_11 => bif (r_11 == (0 : Int)) then ((intern_Name F ([97, 32, 98] : List Int)).bind fun r_12 => bif (r_12 == (3 : Int)) then ((intern_Check F ([([97] : List Int)] : List (List Int)) ([(⟨(-1 : Int), (0 : Int)⟩ : Arr2_Int), (⟨(-1 : Int), (0 : Int)⟩ : Arr2_Int)] : List Arr2_Int)).bind fun r_13 => bif (r_13 == (4 : Int)) then ((intern_Check F ([([97] : List Int)] : List (List Int)) ([(⟨(0 : Int), (0 : Int)⟩ : Arr2_Int)] : List Arr2_Int)).bind fun r_14 => some (r_14 == (2 : Int))) else ( some false)) else ( some false)) else ( some false)) else ( some false)) else ( some false)) else ( some false)) else ( some false)) else ( some false)) else ( some false)) else ( some false)) else ( some false)) else ( some false)) else ( some false)) else ( some false)) else ( some false)) else ( some false)) else ( some false)) else ( some false)) else ( some false))).bind fun (p_1 : Bool) =>
  some p_1


def R06_letter_L1_body (F : Nat) (c_1 : Int) (rec : Int → Option (Unit ⊕ Bool)) (i_1 : Int) : Option (Unit ⊕ Bool) :=
  (bif decide (i_1 < (((([95, 46, 58, 47, 60, 62, 36, 42, 126, 45] : List Int)).length : Nat) : Int)) then (idxL ([95, 46, 58, 47, 60, 62, 36, 42, 126, 45] : List Int) i_1).bind fun c_2 =>
  (bif (c_2 == c_1) then some (.inr true) else
  rec (w_i64 (i_1 + (1 : Int)))) else
  some (.inl ()))

def R06_letter_L1 (F : Nat) (c_1 : Int) : Nat → Int → Option (Unit ⊕ Bool)
  | 0, _ => none
  | n + 1, i_1 => R06_letter_L1_body F c_1 (R06_letter_L1 F c_1 n) i_1

def R06_letter (F : Nat) (c_1 : Int) : Option Bool :=
  (bif (bif decide (c_1 ≥ (97 : Int)) then (decide (c_1 ≤ (122 : Int)) || (bif decide (c_1 ≥ (65 : Int)) then (decide (c_1 ≤ (90 : Int)) || (decide (c_1 ≥ (48 : Int)) && decide (c_1 ≤ (57 : Int)))) else (decide (c_1 ≥ (48 : Int)) && decide (c_1 ≤ (57 : Int))))) else (bif decide (c_1 ≥ (65 : Int)) then (decide (c_1 ≤ (90 : Int)) || (decide (c_1 ≥ (48 : Int)) && decide (c_1 ≤ (57 : Int)))) else (decide (c_1 ≥ (48 : Int)) && decide (c_1 ≤ (57 : Int))))) then some true else
  (R06_letter_L1 F c_1 F (0 : Int)).bind fun (o_1 : Unit ⊕ Bool) =>
  (match o_1 with
  | (.inl q_1) =>
  some false
  | (.inr q_2) =>
  some q_2))


def R06_Name_L1_body (F : Nat) (s_1 : List Int) (rec : Int → Option (Unit ⊕ Int)) (i_1 : Int) : Option (Unit ⊕ Int) :=
  (bif decide (i_1 < (((s_1).length : Nat) : Int)) then (idxL s_1 i_1).bind fun c_1 => (R06_letter F c_1).bind fun r_1 =>
  (bif !r_1 then some (.inr (3 : Int)) else
  rec (w_i64 (i_1 + (1 : Int)))) else
  some (.inl ()))

def R06_Name_L1 (F : Nat) (s_1 : List Int) : Nat → Int → Option (Unit ⊕ Int)
  | 0, _ => none
  | n + 1, i_1 => R06_Name_L1_body F s_1 (R06_Name_L1 F s_1 n) i_1

def R06_Name (F : Nat) (s_1 : List Int) : Option Int :=
  (bif (decide ((((s_1).length : Nat) : Int) < (1 : Int)) || decide ((((s_1).length : Nat) : Int) > (40 : Int))) then some (3 : Int) else
  (R06_Name_L1 F s_1 F (0 : Int)).bind fun (o_1 : Unit ⊕ Int) =>
  (match o_1 with
  | (.inl q_1) =>
  some (0 : Int)
  | (.inr q_2) =>
  some q_2))


def R06_Find_L1_body (F : Nat) (l_1 : List (List Int)) (s_1 : List Int) (rec : Int → Option (Unit ⊕ Int)) (i_1 : Int) : Option (Unit ⊕ Int) :=
  (bif decide (i_1 < (((l_1).length : Nat) : Int)) then (idxL l_1 i_1).bind fun x_1 =>
  (bif (x_1 == s_1) then some (.inr i_1) else
  rec (w_i64 (i_1 + (1 : Int)))) else
  some (.inl ()))

def R06_Find_L1 (F : Nat) (l_1 : List (List Int)) (s_1 : List Int) : Nat → Int → Option (Unit ⊕ Int)
  | 0, _ => none
  | n + 1, i_1 => R06_Find_L1_body F l_1 s_1 (R06_Find_L1 F l_1 s_1 n) i_1

def R06_Find (F : Nat) (l_1 : List (List Int)) (s_1 : List Int) : Option Int :=
  (R06_Find_L1 F l_1 s_1 F (0 : Int)).bind fun (o_1 : Unit ⊕ Int) =>
  (match o_1 with
  | (.inl q_1) =>
  some (-1 : Int)
  | (.inr q_2) =>
  some q_2)


def R06_FindStack_L1_body (F : Nat) (l_1 : List (Arr2_Int)) (p_1 : Arr2_Int) (rec : Int → Option (Unit ⊕ Int)) (i_1 : Int) : Option (Unit ⊕ Int) :=
  (bif decide (i_1 < (((l_1).length : Nat) : Int)) then (idxL l_1 i_1).bind fun x_1 =>
  (bif (decide (x_1 = p_1)) then some (.inr i_1) else
  rec (w_i64 (i_1 + (1 : Int)))) else
  some (.inl ()))

def R06_FindStack_L1 (F : Nat) (l_1 : List (Arr2_Int)) (p_1 : Arr2_Int) : Nat → Int → Option (Unit ⊕ Int)
  | 0, _ => none
  | n + 1, i_1 => R06_FindStack_L1_body F l_1 p_1 (R06_FindStack_L1 F l_1 p_1 n) i_1

def R06_FindStack (F : Nat) (l_1 : List (Arr2_Int)) (p_1 : Arr2_Int) : Option Int :=
  (R06_FindStack_L1 F l_1 p_1 F (0 : Int)).bind fun (o_1 : Unit ⊕ Int) =>
  (match o_1 with
  | (.inl q_1) =>
  some (-1 : Int)
  | (.inr q_2) =>
  some q_2)


def R06_depth_L1_body (F : Nat) (stacks_1 : List (Arr2_Int)) (rec : Int → Int → Option Int) (i_2 : Int) (n_1 : Int) : Option Int :=
  (bif decide (i_2 ≥ (0 : Int)) then (idxL stacks_1 i_2).bind fun x_1 =>
  rec x_1.c0 (w_i64 (n_1 + (1 : Int))) else
  some n_1)

def R06_depth_L1 (F : Nat) (stacks_1 : List (Arr2_Int)) : Nat → Int → Int → Option Int
  | 0, _, _ => none
  | n + 1, i_2, n_1 => R06_depth_L1_body F stacks_1 (R06_depth_L1 F stacks_1 n) i_2 n_1

def R06_depth (F : Nat) (stacks_1 : List (Arr2_Int)) (i_1 : Int) : Option Int :=
  (R06_depth_L1 F stacks_1 F i_1 (0 : Int)).bind fun (o_1 : Int) =>
  some o_1


def R06_Check_L1_body (F : Nat) (names_1 : List (List Int)) (rec : Int → Option (Unit ⊕ Int)) (i_1 : Int) : Option (Unit ⊕ Int) :=
  (bif decide (i_1 < (((names_1).length : Nat) : Int)) then (idxL names_1 i_1).bind fun x_1 => (R06_Name F x_1).bind fun r_1 =>
  (bif (r_1 != (0 : Int)) then some (.inr (3 : Int)) else
  (need ((0 : Int) ≤ i_1 ∧ i_1 ≤ (((names_1).length : Nat) : Int))).bind fun _ => (idxL names_1 i_1).bind fun x_2 => (R06_Find F (sub names_1 (0 : Int) i_1) x_2).bind fun r_2 =>
  (bif decide (r_2 ≥ (0 : Int)) then some (.inr (4 : Int)) else
  rec (w_i64 (i_1 + (1 : Int))))) else
  some (.inl ()))

def R06_Check_L1 (F : Nat) (names_1 : List (List Int)) : Nat → Int → Option (Unit ⊕ Int)
  | 0, _ => none
  | n + 1, i_1 => R06_Check_L1_body F names_1 (R06_Check_L1 F names_1 n) i_1

def R06_Check_L2_body (F : Nat) (names_1 : List (List Int)) (stacks_1 : List (Arr2_Int)) (rec : Int → Option (Unit ⊕ Int)) (i_2 : Int) : Option (Unit ⊕ Int) :=
  (bif decide (i_2 < (((stacks_1).length : Nat) : Int)) then (idxL stacks_1 i_2).bind fun x_3 =>
  (bif (decide (x_3.c0 < (-1 : Int)) || (decide (x_3.c0 ≥ i_2) || (decide (x_3.c1 < (0 : Int)) || decide (x_3.c1 ≥ (((names_1).length : Nat) : Int))))) then some (.inr (2 : Int)) else
  (need ((0 : Int) ≤ i_2 ∧ i_2 ≤ (((stacks_1).length : Nat) : Int))).bind fun _ => (R06_FindStack F (sub stacks_1 (0 : Int) i_2) x_3).bind fun r_3 =>
  (bif decide (r_3 ≥ (0 : Int)) then some (.inr (4 : Int)) else
  (R06_depth F stacks_1 i_2).bind fun r_4 =>
  (bif decide (r_4 > (32 : Int)) then some (.inr (7 : Int)) else
  rec (w_i64 (i_2 + (1 : Int)))))) else
  some (.inl ()))

def R06_Check_L2 (F : Nat) (names_1 : List (List Int)) (stacks_1 : List (Arr2_Int)) : Nat → Int → Option (Unit ⊕ Int)
  | 0, _ => none
  | n + 1, i_2 => R06_Check_L2_body F names_1 stacks_1 (R06_Check_L2 F names_1 stacks_1 n) i_2

def R06_Check (F : Nat) (names_1 : List (List Int)) (stacks_1 : List (Arr2_Int)) : Option Int :=
  (bif (decide ((((names_1).length : Nat) : Int) > (1000 : Int)) || decide ((((stacks_1).length : Nat) : Int) > (1000 : Int))) then some (7 : Int) else
  (R06_Check_L1 F names_1 F (0 : Int)).bind fun (o_1 : Unit ⊕ Int) =>
  (match o_1 with
  | (.inl q_1) =>
  (R06_Check_L2 F names_1 stacks_1 F (0 : Int)).bind fun (o_2 : Unit ⊕ Int) =>
  (match o_2 with
  | (.inl q_3) =>
  some (0 : Int)
  | (.inr q_4) =>
  some q_4)
  | (.inr q_2) =>
  some q_2))


def R06_Stack_L1_body (F : Nat) (names_1 : List (List Int)) (stacks_1 : List (Arr2_Int)) (rec : Int → (List (List Int)) → Option (List (List Int))) (i_2 : Int) (row_1 : List (List Int)) : Option (List (List Int)) :=
  (bif decide (i_2 ≥ (0 : Int)) then (idxL stacks_1 i_2).bind fun x_1 => (idxL names_1 x_1.c1).bind fun x_2 => (need (((([x_2] : List (List Int))).length + (row_1).length) * 16 ≤ 140737488355328)).bind fun _ =>
  (idxL stacks_1 i_2).bind fun x_3 =>
  rec x_3.c0 (([x_2] : List (List Int)) ++ row_1) else
  some row_1)

def R06_Stack_L1 (F : Nat) (names_1 : List (List Int)) (stacks_1 : List (Arr2_Int)) : Nat → Int → (List (List Int)) → Option (List (List Int))
  | 0, _, _ => none
  | n + 1, i_2, row_1 => R06_Stack_L1_body F names_1 stacks_1 (R06_Stack_L1 F names_1 stacks_1 n) i_2 row_1

def R06_Stack (F : Nat) (names_1 : List (List Int)) (stacks_1 : List (Arr2_Int)) (i_1 : Int) : Option ((List (List Int)) × Int) :=
  (R06_Check F names_1 stacks_1).bind fun r_1 =>
  (bif (r_1 != (0 : Int)) then some ([], (1 : Int)) else
  (bif (decide (i_1 < (-1 : Int)) || decide (i_1 ≥ (((stacks_1).length : Nat) : Int))) then some ([], (2 : Int)) else
  (R06_Stack_L1 F names_1 stacks_1 F i_1 []).bind fun (o_1 : (List (List Int))) =>
  some (o_1, (0 : Int))))


def R06_Frames_L1_body (F : Nat) (l_1 : List (List Int)) (rec : Int → Option (Unit ⊕ Int)) (i_1 : Int) : Option (Unit ⊕ Int) :=
  (bif decide (i_1 < (((l_1).length : Nat) : Int)) then (idxL l_1 i_1).bind fun x_1 => (R06_Name F x_1).bind fun r_1 =>
  (bif (r_1 != (0 : Int)) then some (.inr (3 : Int)) else
  rec (w_i64 (i_1 + (1 : Int)))) else
  some (.inl ()))

def R06_Frames_L1 (F : Nat) (l_1 : List (List Int)) : Nat → Int → Option (Unit ⊕ Int)
  | 0, _ => none
  | n + 1, i_1 => R06_Frames_L1_body F l_1 (R06_Frames_L1 F l_1 n) i_1

def R06_Frames (F : Nat) (l_1 : List (List Int)) : Option Int :=
  (bif decide ((((l_1).length : Nat) : Int) > (32 : Int)) then some (7 : Int) else
  (R06_Frames_L1 F l_1 F (0 : Int)).bind fun (o_1 : Unit ⊕ Int) =>
  (match o_1 with
  | (.inl q_1) =>
  some (0 : Int)
  | (.inr q_2) =>
  some q_2))


def L06_InternChecks_L1_body (F : Nat) (l_1 : List (List Int)) (rec : Int → Option (Unit ⊕ Bool)) (k_1 : Int) : Option (Unit ⊕ Bool) :=
  (bif decide (k_1 < (((l_1).length : Nat) : Int)) then (idxL l_1 k_1).bind fun x_1 => (intern_Name F x_1).bind fun r_3 => (idxL l_1 k_1).bind fun x_2 => (R06_Name F x_2).bind fun r_4 =>
  (bif (r_3 != r_4) then some (.inr false) else
  rec (w_i64 (k_1 + (1 : Int)))) else
  some (.inl ()))

def L06_InternChecks_L1 (F : Nat) (l_1 : List (List Int)) : Nat → Int → Option (Unit ⊕ Bool)
  | 0, _ => none
  | n + 1, k_1 => L06_InternChecks_L1_body F l_1 (L06_InternChecks_L1 F l_1 n) k_1

def L06_InternChecks (F : Nat) (t_1 : T_tracebooklaw06_Tables) (l_1 : List (List Int)) (i_1 : Int) : Option Bool :=
  (((L06_small t_1).bind fun r_1 => bif !r_1 then ( some true) else ( some (decide ((((l_1).length : Nat) : Int) > (100 : Int)))))).bind fun (p_1 : Bool) =>
  (bif p_1 then (L06_awake F).bind fun r_2 =>
  some r_2 else
  (L06_InternChecks_L1 F l_1 F (0 : Int)).bind fun (o_1 : Unit ⊕ Bool) =>
  (match o_1 with
  | (.inl q_1) =>
  (intern_Stack F t_1.Names t_1.Stacks i_1).bind fun r_5 =>
  (R06_Stack F t_1.Names t_1.Stacks i_1).bind fun r_6 =>
  (((intern_Frames F l_1).bind fun r_7 => (R06_Frames F l_1).bind fun r_8 => bif (r_7 == r_8) then ((intern_Check F t_1.Names t_1.Stacks).bind fun r_9 => (R06_Check F t_1.Names t_1.Stacks).bind fun r_10 => bif (r_9 == r_10) then ((R06_SameNames F r_5.1 r_6.1).bind fun r_11 => bif r_11 then ( bif (r_5.2 == r_6.2) then ((L06_awake F).bind fun r_12 => some r_12) else ( some false)) else ( some false)) else ( some false)) else ( some false))).bind fun (p_2 : Bool) =>
  some p_2
  | (.inr q_2) =>
  some q_2))


def R06_Put (F : Nat) (names_1 : List (List Int)) (s_1 : List Int) : Option (Int × (List (List Int)) × Int) :=
  (R06_Name F s_1).bind fun r_1 =>
  (bif (r_1 != (0 : Int)) then some ((0 : Int), names_1, (3 : Int)) else
  (R06_Find F names_1 s_1).bind fun r_2 =>
  (bif decide (r_2 ≥ (0 : Int)) then some (r_2, names_1, (0 : Int)) else
  (bif decide ((((names_1).length : Nat) : Int) ≥ (1000 : Int)) then some ((0 : Int), names_1, (6 : Int)) else
  (need (((([] : List (List Int))).length + (names_1).length) * 16 ≤ 140737488355328)).bind fun _ => (need (((([] ++ names_1)).length + (([s_1] : List (List Int))).length) * 16 ≤ 140737488355328)).bind fun _ =>
  some ((((names_1).length : Nat) : Int), (([] ++ names_1) ++ ([s_1] : List (List Int))), (0 : Int)))))


def R06_PutStack_L1_body (F : Nat) (names_1 : List (List Int)) (stacks_1 : List (Arr2_Int)) (l_1 : List (List Int)) (rec : Int → (List (List Int)) → Int → (List Arr2_Int) → Option ((Int × (List (List Int)) × (List Arr2_Int)) ⊕ (Int × (List (List Int)) × (List (Arr2_Int)) × Int))) (at__1 : Int) (n_1 : List (List Int)) (k_1 : Int) (row_1 : List Arr2_Int) : Option ((Int × (List (List Int)) × (List Arr2_Int)) ⊕ (Int × (List (List Int)) × (List (Arr2_Int)) × Int)) :=
  (bif decide (k_1 < (((l_1).length : Nat) : Int)) then (((idxL l_1 k_1).bind fun x_1 => (R06_Put F n_1 x_1).bind fun r_2 =>
  (bif (r_2.2.2 != (0 : Int)) then some (.inr ((0 : Int), names_1, stacks_1, r_2.2.2)) else
  (R06_FindStack F row_1 (⟨at__1, r_2.1⟩ : Arr2_Int)).bind fun r_3 =>
  (bif decide (r_3 ≥ (0 : Int)) then some (.inl (r_3, r_2.2.1, row_1)) else
  (bif decide ((((row_1).length : Nat) : Int) ≥ (1000 : Int)) then some (.inr ((0 : Int), names_1, stacks_1, (6 : Int))) else
  (need (((row_1).length + (([(⟨at__1, r_2.1⟩ : Arr2_Int)] : List Arr2_Int)).length) * 16 ≤ 140737488355328)).bind fun _ =>
  some (.inl ((((row_1).length : Nat) : Int), r_2.2.1, (row_1 ++ ([(⟨at__1, r_2.1⟩ : Arr2_Int)] : List Arr2_Int))))))) : Option ((Int × (List (List Int)) × (List Arr2_Int)) ⊕ (Int × (List (List Int)) × (List (Arr2_Int)) × Int)))).bind fun (o_2 : (Int × (List (List Int)) × (List Arr2_Int)) ⊕ (Int × (List (List Int)) × (List (Arr2_Int)) × Int)) =>
  (match o_2 with
  | (.inl q_1) =>
  rec q_1.1 q_1.2.1 (w_i64 (k_1 + (1 : Int))) q_1.2.2
  | (.inr q_2) =>
  some (.inr q_2)) else
  some (.inl (at__1, n_1, row_1)))

def R06_PutStack_L1 (F : Nat) (names_1 : List (List Int)) (stacks_1 : List (Arr2_Int)) (l_1 : List (List Int)) : Nat → Int → (List (List Int)) → Int → (List Arr2_Int) → Option ((Int × (List (List Int)) × (List Arr2_Int)) ⊕ (Int × (List (List Int)) × (List (Arr2_Int)) × Int))
  | 0, _, _, _, _ => none
  | n + 1, at__1, n_1, k_1, row_1 => R06_PutStack_L1_body F names_1 stacks_1 l_1 (R06_PutStack_L1 F names_1 stacks_1 l_1 n) at__1 n_1 k_1 row_1

def R06_PutStack (F : Nat) (names_1 : List (List Int)) (stacks_1 : List (Arr2_Int)) (l_1 : List (List Int)) : Option (Int × (List (List Int)) × (List (Arr2_Int)) × Int) :=
  (R06_Frames F l_1).bind fun r_1 =>
  (bif (r_1 != (0 : Int)) then some ((0 : Int), names_1, stacks_1, r_1) else
  (need (((([] : List Arr2_Int)).length + (stacks_1).length) * 16 ≤ 140737488355328)).bind fun _ =>
  (R06_PutStack_L1 F names_1 stacks_1 l_1 F (-1 : Int) names_1 (0 : Int) ([] ++ stacks_1)).bind fun (o_1 : (Int × (List (List Int)) × (List Arr2_Int)) ⊕ (Int × (List (List Int)) × (List (Arr2_Int)) × Int)) =>
  (match o_1 with
  | (.inl q_3) =>
  some (q_3.1, q_3.2.1, q_3.2.2, (0 : Int))
  | (.inr q_4) =>
  some q_4))


def L06_InternPuts (F : Nat) (t_1 : T_tracebooklaw06_Tables) (s_1 : List Int) (l_1 : List (List Int)) : Option Bool :=
  (((L06_small t_1).bind fun r_1 => bif !r_1 then ( some true) else ( some (decide ((((l_1).length : Nat) : Int) > (100 : Int)))))).bind fun (p_1 : Bool) =>
  (bif p_1 then (L06_awake F).bind fun r_2 =>
  some r_2 else
  (intern_Put F t_1.Names s_1).bind fun r_3 =>
  (R06_Put F t_1.Names s_1).bind fun r_4 =>
  (( bif (r_3.1 != r_4.1) then ( some true) else ( bif (r_3.2.2 != r_4.2.2) then ( some true) else ((R06_SameNames F r_3.2.1 r_4.2.1).bind fun r_5 => some (!r_5))))).bind fun (p_2 : Bool) =>
  (bif p_2 then some false else
  (intern_PutStack F t_1.Names t_1.Stacks l_1).bind fun r_6 =>
  (R06_PutStack F t_1.Names t_1.Stacks l_1).bind fun r_7 =>
  (( bif (r_6.1 == r_7.1) then ( bif (r_6.2.2.2 == r_7.2.2.2) then ((R06_SameNames F r_6.2.1 r_7.2.1).bind fun r_8 => bif r_8 then ((R06_SameStacks F r_6.2.2.1 r_7.2.2.1).bind fun r_9 => bif r_9 then ((L06_awake F).bind fun r_10 => some r_10) else ( some false)) else ( some false)) else ( some false)) else ( some false))).bind fun (p_3 : Bool) =>
  some p_3))


def L06_InternBack (F : Nat) (t_1 : T_tracebooklaw06_Tables) (l_1 : List (List Int)) : Option Bool :=
  (((L06_small t_1).bind fun r_1 => bif !r_1 then ( some true) else ( bif decide ((((l_1).length : Nat) : Int) > (100 : Int)) then ( some true) else ((intern_Check F t_1.Names t_1.Stacks).bind fun r_2 => some (r_2 != (0 : Int)))))).bind fun (p_1 : Bool) =>
  (bif p_1 then (L06_awake F).bind fun r_3 =>
  some r_3 else
  (intern_PutStack F t_1.Names t_1.Stacks l_1).bind fun r_4 =>
  (( bif decide ((((r_4.2.1).length : Nat) : Int) < (((t_1.Names).length : Nat) : Int)) then ( some true) else ( bif decide ((((r_4.2.2.1).length : Nat) : Int) < (((t_1.Stacks).length : Nat) : Int)) then ( some true) else ((need ((((t_1.Names).length : Nat) : Int) ≤ (((r_4.2.1).length : Nat) : Int))).bind fun _ => (R06_SameNames F (sub r_4.2.1 (0 : Int) (((t_1.Names).length : Nat) : Int)) t_1.Names).bind fun r_5 => bif !r_5 then ( some true) else ((need ((((t_1.Stacks).length : Nat) : Int) ≤ (((r_4.2.2.1).length : Nat) : Int))).bind fun _ => (R06_SameStacks F (sub r_4.2.2.1 (0 : Int) (((t_1.Stacks).length : Nat) : Int)) t_1.Stacks).bind fun r_6 => bif !r_6 then ( some true) else ((intern_Check F r_4.2.1 r_4.2.2.1).bind fun r_7 => some (r_7 != (0 : Int)))))))).bind fun (p_2 : Bool) =>
  (bif p_2 then some false else
  (bif (r_4.2.2.2 != (0 : Int)) then (( bif (r_4.1 == (0 : Int)) then ( bif ((((r_4.2.1).length : Nat) : Int) == (((t_1.Names).length : Nat) : Int)) then ( bif ((((r_4.2.2.1).length : Nat) : Int) == (((t_1.Stacks).length : Nat) : Int)) then ((L06_awake F).bind fun r_8 => some r_8) else ( some false)) else ( some false)) else ( some false))).bind fun (p_3 : Bool) =>
  some p_3 else
  (intern_Stack F r_4.2.1 r_4.2.2.1 r_4.1).bind fun r_9 =>
  (( bif (r_9.2 == (0 : Int)) then ((R06_SameNames F r_9.1 l_1).bind fun r_10 => bif r_10 then ((L06_awake F).bind fun r_11 => some r_11) else ( some false)) else ( some false))).bind fun (p_4 : Bool) =>
  some p_4)))


def L06_InternAgain_L1_body (F : Nat) (l_1 : List (List Int)) (r_5 : Int × (List (List Int)) × (List (Arr2_Int)) × Int) (rec : Int → Option (Unit ⊕ Bool)) (q_1 : Int) : Option (Unit ⊕ Bool) :=
  (bif decide (q_1 < (((l_1).length : Nat) : Int)) then (idxL l_1 q_1).bind fun x_1 => (intern_Put F r_5.2.1 x_1).bind fun r_9 =>
  (( bif (r_9.2.2 != (0 : Int)) then ( some true) else ( bif ((((r_9.2.1).length : Nat) : Int) != (((r_5.2.1).length : Nat) : Int)) then ( some true) else ( bif decide (r_9.1 < (0 : Int)) then ( some true) else ( bif decide (r_9.1 ≥ (((r_5.2.1).length : Nat) : Int)) then ( some true) else ((idxL r_5.2.1 r_9.1).bind fun x_2 => (idxL l_1 q_1).bind fun x_3 => some (!(x_2 == x_3)))))))).bind fun (p_3 : Bool) =>
  (bif p_3 then some (.inr false) else
  rec (w_i64 (q_1 + (1 : Int)))) else
  some (.inl ()))

def L06_InternAgain_L1 (F : Nat) (l_1 : List (List Int)) (r_5 : Int × (List (List Int)) × (List (Arr2_Int)) × Int) : Nat → Int → Option (Unit ⊕ Bool)
  | 0, _ => none
  | n + 1, q_1 => L06_InternAgain_L1_body F l_1 r_5 (L06_InternAgain_L1 F l_1 r_5 n) q_1

def L06_InternAgain (F : Nat) (t_1 : T_tracebooklaw06_Tables) (l_1 : List (List Int)) (m_1 : List (List Int)) : Option Bool :=
  (((L06_small t_1).bind fun r_1 => bif !r_1 then ( some true) else ( bif decide ((((l_1).length : Nat) : Int) > (100 : Int)) then ( some true) else ( bif decide ((((m_1).length : Nat) : Int) > (100 : Int)) then ( some true) else ((intern_Check F t_1.Names t_1.Stacks).bind fun r_2 => some (r_2 != (0 : Int))))))).bind fun (p_1 : Bool) =>
  (bif p_1 then (L06_awake F).bind fun r_3 =>
  some r_3 else
  (intern_PutStack F t_1.Names t_1.Stacks l_1).bind fun r_4 =>
  (intern_PutStack F r_4.2.1 r_4.2.2.1 m_1).bind fun r_5 =>
  (bif ((r_4.2.2.2 != (0 : Int)) || (r_5.2.2.2 != (0 : Int))) then (L06_awake F).bind fun r_6 =>
  some r_6 else
  (intern_PutStack F r_5.2.1 r_5.2.2.1 l_1).bind fun r_7 =>
  (( bif (r_7.1 != r_4.1) then ( some true) else ( bif (r_7.2.2.2 != (0 : Int)) then ( some true) else ( bif ((((r_7.2.1).length : Nat) : Int) != (((r_5.2.1).length : Nat) : Int)) then ( some true) else ( bif ((((r_7.2.2.1).length : Nat) : Int) != (((r_5.2.2.1).length : Nat) : Int)) then ( some true) else ((R06_SameNames F l_1 m_1).bind fun r_8 => some (!((r_4.1 == r_5.1) == r_8)))))))).bind fun (p_2 : Bool) =>
  (bif p_2 then some false else
  (L06_InternAgain_L1 F l_1 r_5 F (0 : Int)).bind fun (o_1 : Unit ⊕ Bool) =>
  (match o_1 with
  | (.inl q_2) =>
  (L06_awake F).bind fun r_10 =>
  some r_10
  | (.inr q_3) =>
  some q_3))))


def L06_word_L1_body (F : Nat) (rec : Int → (List Int) → Option (Int × (List Int))) (n_2 : Int) (s_1 : List Int) : Option (Int × (List Int)) :=
  (bif decide (n_2 ≥ (10 : Int)) then (need (([w_u8 (w_i64 ((48 : Int) + (irem n_2 (10 : Int))))] : List Int).length + s_1.length ≤ 9223372036854775807)).bind fun _ =>
  rec (iquo .i64 n_2 (10 : Int)) (([w_u8 (w_i64 ((48 : Int) + (irem n_2 (10 : Int))))] : List Int) ++ s_1) else
  some (n_2, s_1))

def L06_word_L1 (F : Nat) : Nat → Int → (List Int) → Option (Int × (List Int))
  | 0, _, _ => none
  | n + 1, n_2, s_1 => L06_word_L1_body F (L06_word_L1 F n) n_2 s_1

def L06_word (F : Nat) (n_1 : Int) : Option (List Int) :=
  (L06_word_L1 F F n_1 ([] : List Int)).bind fun (o_1 : (Int × (List Int))) =>
  (need (([119] : List Int).length + ([w_u8 (w_i64 ((48 : Int) + o_1.1))] : List Int).length ≤ 9223372036854775807)).bind fun _ => (need ((([119] : List Int) ++ ([w_u8 (w_i64 ((48 : Int) + o_1.1))] : List Int)).length + o_1.2.length ≤ 9223372036854775807)).bind fun _ =>
  some ((([119] : List Int) ++ ([w_u8 (w_i64 ((48 : Int) + o_1.1))] : List Int)) ++ o_1.2)


def L06_InternFull_L1_body (F : Nat) (k_1 : Int) (rec : (List (List Int)) → (List Arr2_Int) → Int → Option (((List (List Int)) × (List Arr2_Int)) ⊕ Bool)) (n_1 : List (List Int)) (s_1 : List Arr2_Int) (i_1 : Int) : Option (((List (List Int)) × (List Arr2_Int)) ⊕ Bool) :=
  (bif decide (i_1 < (w_i64 ((997 : Int) + (w_i64 (irem k_1 (7 : Int)))))) then (L06_word F i_1).bind fun r_1 => (intern_PutStack F n_1 s_1 ([r_1] : List (List Int))).bind fun r_2 =>
  (bif (!((decide (i_1 ≥ (1000 : Int)) || decide (i_1 ≥ (1000 : Int))) == (r_2.2.2.2 == (6 : Int))) || (bif !(decide (i_1 ≥ (1000 : Int)) || decide (i_1 ≥ (1000 : Int))) then ((r_2.1 != i_1) || ((r_2.2.2.2 != (0 : Int)) || ((decide (i_1 ≥ (1000 : Int)) || decide (i_1 ≥ (1000 : Int))) && ((r_2.1 != (0 : Int)) || (((((r_2.2.1).length : Nat) : Int) != (((n_1).length : Nat) : Int)) || ((((r_2.2.2.1).length : Nat) : Int) != (((s_1).length : Nat) : Int))))))) else ((decide (i_1 ≥ (1000 : Int)) || decide (i_1 ≥ (1000 : Int))) && ((r_2.1 != (0 : Int)) || (((((r_2.2.1).length : Nat) : Int) != (((n_1).length : Nat) : Int)) || ((((r_2.2.2.1).length : Nat) : Int) != (((s_1).length : Nat) : Int))))))) then some (.inr false) else
  rec r_2.2.1 r_2.2.2.1 (w_i64 (i_1 + (1 : Int)))) else
  some (.inl (n_1, s_1)))

def L06_InternFull_L1 (F : Nat) (k_1 : Int) : Nat → (List (List Int)) → (List Arr2_Int) → Int → Option (((List (List Int)) × (List Arr2_Int)) ⊕ Bool)
  | 0, _, _, _ => none
  | n + 1, n_1, s_1, i_1 => L06_InternFull_L1_body F k_1 (L06_InternFull_L1 F k_1 n) n_1 s_1 i_1

def L06_InternFull (F : Nat) (k_1 : Int) : Option Bool :=
  (L06_InternFull_L1 F k_1 F [] [] (0 : Int)).bind fun (o_1 : ((List (List Int)) × (List Arr2_Int)) ⊕ Bool) =>
  (match o_1 with
  | (.inl q_1) =>
  (L06_word F (5 : Int)).bind fun r_3 => (intern_PutStack F q_1.1 q_1.2 ([r_3] : List (List Int))).bind fun r_4 =>
  (( bif (r_4.1 == (5 : Int)) then ( bif ((((r_4.2.1).length : Nat) : Int) == (((q_1.1).length : Nat) : Int)) then ( bif ((((r_4.2.2.1).length : Nat) : Int) == (((q_1.2).length : Nat) : Int)) then ( bif (r_4.2.2.2 == (0 : Int)) then ( bif ((((q_1.1).length : Nat) : Int) == (imin (w_i64 ((997 : Int) + (w_i64 (irem k_1 (7 : Int))))) (1000 : Int))) then ((L06_awake F).bind fun r_5 => some r_5) else ( some false)) else ( some false)) else ( some false)) else ( some false)) else ( some false))).bind fun (p_1 : Bool) =>
  some p_1
  | (.inr q_2) =>
  some q_2)


end Go.Ab
