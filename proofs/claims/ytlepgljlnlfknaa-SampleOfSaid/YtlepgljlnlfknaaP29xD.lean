/- Printed: the typed Lean functions of the Go functions, or the proofs that the Go functions meet them. No conditions but those that the theorems name. -/
import Derived.Test.YtlepgljlnlfknaaA30
namespace Go.Ab
open Go
set_option linter.unusedVariables false

structure T_api_Id where
  Thread : Int
  Serial : Int
  deriving DecidableEq, Inhabited
def e_T_api_Id (s : T_api_Id) : AV := .agg [.int .i64 s.Thread, .int .i64 s.Serial]

structure T_api_Event where
  At : Int
  Kind : Int
  Name : List Int
  N : Int
  M : Int
  Stack : List (List Int)
  deriving DecidableEq, Inhabited
def e_T_api_Event (s : T_api_Event) : AV := .agg [.int .i64 s.At, .int .i64 s.Kind, .str s.Name, .int .i64 s.N, .int .i64 s.M, .sl false 1 (List.map AV.str s.Stack)]

structure T_api_Interval where
  Lo : Int
  Hi : Int
  deriving DecidableEq, Inhabited
def e_T_api_Interval (s : T_api_Interval) : AV := .agg [.int .i64 s.Lo, .int .i64 s.Hi]

structure T_api_Timed where
  Id : T_api_Id
  Event : T_api_Event
  When : T_api_Interval
  deriving DecidableEq, Inhabited
def e_T_api_Timed (s : T_api_Timed) : AV := .agg [.int .i64 s.Id.Thread, .int .i64 s.Id.Serial, .int .i64 s.Event.At, .int .i64 s.Event.Kind, .str s.Event.Name, .int .i64 s.Event.N, .int .i64 s.Event.M, .sl false 1 (List.map AV.str s.Event.Stack), .int .i64 s.When.Lo, .int .i64 s.When.Hi]

structure T_api_Sample where
  Thread : Int
  At : Int
  Weight : Int
  Stack : List (List Int)
  deriving DecidableEq, Inhabited
def e_T_api_Sample (s : T_api_Sample) : AV := .agg [.int .i64 s.Thread, .int .i64 s.At, .int .i64 s.Weight, .sl false 1 (List.map AV.str s.Stack)]

def sample_Of_L1_body (F : Nat) (o_1 : List (T_api_Timed)) (rec : Int → (List T_api_Sample) → Option (List T_api_Sample)) (v_1 : Int) (row_1 : List T_api_Sample) : Option (List T_api_Sample) :=
  (bif decide (v_1 < (((o_1).length : Nat) : Int)) then (idxL o_1 v_1).bind fun x_1 =>
  (bif (x_1.Event.Kind == (5 : Int)) then (need (((([] : List (List Int))).length + (x_1.Event.Stack).length) * 16 ≤ 140737488355328)).bind fun _ => (need (((row_1).length + (([(⟨x_1.Id.Thread, imin (imax x_1.When.Lo (0 : Int)) (1000000000000 : Int), x_1.Event.N, ([] ++ x_1.Event.Stack)⟩ : T_api_Sample)] : List T_api_Sample)).length) * 48 ≤ 140737488355328)).bind fun _ =>
  rec (w_i64 (v_1 + (1 : Int))) (row_1 ++ ([(⟨x_1.Id.Thread, imin (imax x_1.When.Lo (0 : Int)) (1000000000000 : Int), x_1.Event.N, ([] ++ x_1.Event.Stack)⟩ : T_api_Sample)] : List T_api_Sample)) else
  rec (w_i64 (v_1 + (1 : Int))) row_1) else
  some row_1)

def sample_Of_L1 (F : Nat) (o_1 : List (T_api_Timed)) : Nat → Int → (List T_api_Sample) → Option (List T_api_Sample)
  | 0, _, _ => none
  | n + 1, v_1, row_1 => sample_Of_L1_body F o_1 (sample_Of_L1 F o_1 n) v_1 row_1

def sample_Of (F : Nat) (o_1 : List (T_api_Timed)) : Option (List (T_api_Sample)) :=
  (sample_Of_L1 F o_1 F (0 : Int) []).bind fun (o_2 : (List T_api_Sample)) =>
  some o_2


def sample_good (s_1 : T_api_Sample) : Option Bool :=
  some (decide (s_1.Thread ≥ (0 : Int)) && (decide (s_1.Thread ≤ (1000000000000000 : Int)) && (decide (s_1.At ≥ (0 : Int)) && (decide (s_1.At ≤ (1000000000000 : Int)) && (decide (s_1.Weight ≥ (1 : Int)) && decide (s_1.Weight ≤ (1000000000000 : Int)))))))


def sample_Leaf_1 (s_1 : T_api_Sample) (a_1 : List Int) : Option Bool :=
  (( bif decide ((((s_1.Stack).length : Nat) : Int) > (0 : Int)) then ((idxL s_1.Stack (w_i64 ((((s_1.Stack).length : Nat) : Int) - (1 : Int)))).bind fun x_1 => some (x_1 == a_1)) else ( some false))).bind fun (p_1 : Bool) =>
  some p_1


def sample_weigh_L1_body (F : Nat) (l_1 : List (T_api_Sample)) (c_1 : List Int) (rec : Int → Int → Option Int) (n_1 : Int) (v_1 : Int) : Option Int :=
  (bif decide (v_1 < (((l_1).length : Nat) : Int)) then (idxL l_1 v_1).bind fun x_1 =>
  (((sample_good x_1).bind fun r_1 => bif r_1 then ((sample_Leaf_1 x_1 c_1).bind fun r_2 => some r_2) else ( some false))).bind fun (p_1 : Bool) =>
  (bif p_1 then rec (imin (w_i64 (n_1 + x_1.Weight)) (1000000000000000 : Int)) (w_i64 (v_1 + (1 : Int))) else
  rec n_1 (w_i64 (v_1 + (1 : Int)))) else
  some n_1)

def sample_weigh_L1 (F : Nat) (l_1 : List (T_api_Sample)) (c_1 : List Int) : Nat → Int → Int → Option Int
  | 0, _, _ => none
  | n + 1, n_1, v_1 => sample_weigh_L1_body F l_1 c_1 (sample_weigh_L1 F l_1 c_1 n) n_1 v_1

def sample_weigh (F : Nat) (l_1 : List (T_api_Sample)) (c_1 : List Int) : Option Int :=
  (sample_weigh_L1 F l_1 c_1 F (0 : Int) (0 : Int)).bind fun (o_1 : Int) =>
  some o_1


def sample_Leaf (F : Nat) (l_1 : List (T_api_Sample)) (name_1 : List Int) : Option Int :=
  (sample_weigh F l_1 name_1).bind fun r_1 =>
  some r_1


def sample_Total_1 (a_1 : T_api_Sample) : Option Bool :=
  some true


def sample_weigh_v2_L1_body (F : Nat) (l_1 : List (T_api_Sample)) (rec : Int → Int → Option Int) (n_1 : Int) (v_1 : Int) : Option Int :=
  (bif decide (v_1 < (((l_1).length : Nat) : Int)) then (idxL l_1 v_1).bind fun x_1 =>
  (((sample_good x_1).bind fun r_1 => bif r_1 then ((sample_Total_1 x_1).bind fun r_2 => some r_2) else ( some false))).bind fun (p_1 : Bool) =>
  (bif p_1 then rec (imin (w_i64 (n_1 + x_1.Weight)) (1000000000000000 : Int)) (w_i64 (v_1 + (1 : Int))) else
  rec n_1 (w_i64 (v_1 + (1 : Int)))) else
  some n_1)

def sample_weigh_v2_L1 (F : Nat) (l_1 : List (T_api_Sample)) : Nat → Int → Int → Option Int
  | 0, _, _ => none
  | n + 1, n_1, v_1 => sample_weigh_v2_L1_body F l_1 (sample_weigh_v2_L1 F l_1 n) n_1 v_1

def sample_weigh_v2 (F : Nat) (l_1 : List (T_api_Sample)) : Option Int :=
  (sample_weigh_v2_L1 F l_1 F (0 : Int) (0 : Int)).bind fun (o_1 : Int) =>
  some o_1


def sample_Total (F : Nat) (l_1 : List (T_api_Sample)) : Option Int :=
  (sample_weigh_v2 F l_1).bind fun r_1 =>
  some r_1


def stringslite_IndexByte (s_1 : List Int) (c_1 : Int) : Option Int :=
  some (idxByte s_1 c_1)


def strings_IndexByte (s_1 : List Int) (c_1 : Int) : Option Int :=
  (stringslite_IndexByte s_1 c_1).bind fun r_1 =>
  some r_1


def intern_letter (c_1 : Int) : Option Bool :=
  (( bif decide (c_1 ≥ (97 : Int)) then ( bif decide (c_1 ≤ (122 : Int)) then ( some true) else ( bif decide (c_1 ≥ (65 : Int)) then ( bif decide (c_1 ≤ (90 : Int)) then ( some true) else ( bif decide (c_1 ≥ (48 : Int)) then ( bif decide (c_1 ≤ (57 : Int)) then ( some true) else ((strings_IndexByte ([95, 46, 58, 47, 60, 62, 36, 42, 126, 45] : List Int) c_1).bind fun r_1 => some (decide (r_1 ≥ (0 : Int))))) else ((strings_IndexByte ([95, 46, 58, 47, 60, 62, 36, 42, 126, 45] : List Int) c_1).bind fun r_1 => some (decide (r_1 ≥ (0 : Int)))))) else ( bif decide (c_1 ≥ (48 : Int)) then ( bif decide (c_1 ≤ (57 : Int)) then ( some true) else ((strings_IndexByte ([95, 46, 58, 47, 60, 62, 36, 42, 126, 45] : List Int) c_1).bind fun r_1 => some (decide (r_1 ≥ (0 : Int))))) else ((strings_IndexByte ([95, 46, 58, 47, 60, 62, 36, 42, 126, 45] : List Int) c_1).bind fun r_1 => some (decide (r_1 ≥ (0 : Int))))))) else ( bif decide (c_1 ≥ (65 : Int)) then ( bif decide (c_1 ≤ (90 : Int)) then ( some true) else ( bif decide (c_1 ≥ (48 : Int)) then ( bif decide (c_1 ≤ (57 : Int)) then ( some true) else ((strings_IndexByte ([95, 46, 58, 47, 60, 62, 36, 42, 126, 45] : List Int) c_1).bind fun r_1 => some (decide (r_1 ≥ (0 : Int))))) else ((strings_IndexByte ([95, 46, 58, 47, 60, 62, 36, 42, 126, 45] : List Int) c_1).bind fun r_1 => some (decide (r_1 ≥ (0 : Int)))))) else ( bif decide (c_1 ≥ (48 : Int)) then ( bif decide (c_1 ≤ (57 : Int)) then ( some true) else ((strings_IndexByte ([95, 46, 58, 47, 60, 62, 36, 42, 126, 45] : List Int) c_1).bind fun r_1 => some (decide (r_1 ≥ (0 : Int))))) else ((strings_IndexByte ([95, 46, 58, 47, 60, 62, 36, 42, 126, 45] : List Int) c_1).bind fun r_1 => some (decide (r_1 ≥ (0 : Int)))))))).bind fun (p_1 : Bool) =>
  some p_1


def intern_Name_L1_body (F : Nat) (s_1 : List Int) (rec : Int → Option (Unit ⊕ Int)) (v_1 : Int) : Option (Unit ⊕ Int) :=
  (bif decide (v_1 < (((s_1).length : Nat) : Int)) then (idxL s_1 v_1).bind fun c_1 => (intern_letter c_1).bind fun r_1 =>
  (bif !r_1 then some (.inr (3 : Int)) else
  rec (w_i64 (v_1 + (1 : Int)))) else
  some (.inl ()))

def intern_Name_L1 (F : Nat) (s_1 : List Int) : Nat → Int → Option (Unit ⊕ Int)
  | 0, _ => none
  | n + 1, v_1 => intern_Name_L1_body F s_1 (intern_Name_L1 F s_1 n) v_1

def intern_Name (F : Nat) (s_1 : List Int) : Option Int :=
  (bif ((s_1 == ([] : List Int)) || decide ((((s_1).length : Nat) : Int) > (40 : Int))) then some (3 : Int) else
  (intern_Name_L1 F s_1 F (0 : Int)).bind fun (o_1 : Unit ⊕ Int) =>
  (match o_1 with
  | (.inl q_1) =>
  some (0 : Int)
  | (.inr q_2) =>
  some q_2))


def intern_Frames_L1_body (F : Nat) (l_1 : List (List Int)) (rec : Int → Option (Unit ⊕ Int)) (v_1 : Int) : Option (Unit ⊕ Int) :=
  (bif decide (v_1 < (((l_1).length : Nat) : Int)) then (idxL l_1 v_1).bind fun x_1 =>
  (intern_Name F x_1).bind fun r_1 =>
  (bif (r_1 != (0 : Int)) then some (.inr r_1) else
  rec (w_i64 (v_1 + (1 : Int)))) else
  some (.inl ()))

def intern_Frames_L1 (F : Nat) (l_1 : List (List Int)) : Nat → Int → Option (Unit ⊕ Int)
  | 0, _ => none
  | n + 1, v_1 => intern_Frames_L1_body F l_1 (intern_Frames_L1 F l_1 n) v_1

def intern_Frames (F : Nat) (l_1 : List (List Int)) : Option Int :=
  (bif decide ((((l_1).length : Nat) : Int) > (32 : Int)) then some (7 : Int) else
  (intern_Frames_L1 F l_1 F (0 : Int)).bind fun (o_1 : Unit ⊕ Int) =>
  (match o_1 with
  | (.inl q_1) =>
  some (0 : Int)
  | (.inr q_2) =>
  some q_2))


def sample_Check_L1_body (F : Nat) (l_1 : List (T_api_Sample)) (rec : Int → Option (Unit ⊕ Int)) (v_1 : Int) : Option (Unit ⊕ Int) :=
  (bif decide (v_1 < (((l_1).length : Nat) : Int)) then (idxL l_1 v_1).bind fun x_1 =>
  (sample_good x_1).bind fun r_1 =>
  (bif !r_1 then some (.inr (2 : Int)) else
  (intern_Frames F x_1.Stack).bind fun r_2 =>
  (bif (r_2 != (0 : Int)) then some (.inr r_2) else
  (( bif decide (v_1 > (0 : Int)) then ((idxL l_1 (w_i64 (v_1 - (1 : Int)))).bind fun x_2 => some (decide (x_1.At < x_2.At))) else ( some false))).bind fun (p_1 : Bool) =>
  (bif p_1 then some (.inr (11 : Int)) else
  rec (w_i64 (v_1 + (1 : Int)))))) else
  some (.inl ()))

def sample_Check_L1 (F : Nat) (l_1 : List (T_api_Sample)) : Nat → Int → Option (Unit ⊕ Int)
  | 0, _ => none
  | n + 1, v_1 => sample_Check_L1_body F l_1 (sample_Check_L1 F l_1 n) v_1

def sample_Check (F : Nat) (l_1 : List (T_api_Sample)) : Option Int :=
  (sample_Check_L1 F l_1 F (0 : Int)).bind fun (o_1 : Unit ⊕ Int) =>
  (match o_1 with
  | (.inl q_1) =>
  some (0 : Int)
  | (.inr q_2) =>
  some q_2)


structure T_api_Span where
  From : Int
  To : Int
  deriving DecidableEq, Inhabited
def e_T_api_Span (s : T_api_Span) : AV := .agg [.int .i64 s.From, .int .i64 s.To]

def sample_Within_L1_body (F : Nat) (l_1 : List (T_api_Sample)) (s_1 : T_api_Span) (rec : Int → (List T_api_Sample) → Option (List T_api_Sample)) (v_1 : Int) (row_1 : List T_api_Sample) : Option (List T_api_Sample) :=
  (bif decide (v_1 < (((l_1).length : Nat) : Int)) then (idxL l_1 v_1).bind fun x_1 =>
  (bif (decide (s_1.From ≤ x_1.At) && decide (x_1.At < s_1.To)) then (need (((row_1).length + (([x_1] : List T_api_Sample)).length) * 48 ≤ 140737488355328)).bind fun _ =>
  rec (w_i64 (v_1 + (1 : Int))) (row_1 ++ ([x_1] : List T_api_Sample)) else
  rec (w_i64 (v_1 + (1 : Int))) row_1) else
  some row_1)

def sample_Within_L1 (F : Nat) (l_1 : List (T_api_Sample)) (s_1 : T_api_Span) : Nat → Int → (List T_api_Sample) → Option (List T_api_Sample)
  | 0, _, _ => none
  | n + 1, v_1, row_1 => sample_Within_L1_body F l_1 s_1 (sample_Within_L1 F l_1 s_1 n) v_1 row_1

def sample_Within (F : Nat) (l_1 : List (T_api_Sample)) (s_1 : T_api_Span) : Option (List (T_api_Sample)) :=
  (sample_Within_L1 F l_1 s_1 F (0 : Int) []).bind fun (o_1 : (List T_api_Sample)) =>
  some o_1


def L29_awake (F : Nat) : Option Bool :=
  (sample_Of F ([(⟨(⟨(6 : Int), (0 : Int)⟩ : T_api_Id), (⟨(0 : Int), (5 : Int), ([] : List Int), (9 : Int), (0 : Int), []⟩ : T_api_Event), (⟨(-3 : Int), (5 : Int)⟩ : T_api_Interval)⟩ : T_api_Timed), (⟨(⟨(0 : Int), (0 : Int)⟩ : T_api_Id), (⟨(0 : Int), (2 : Int), ([] : List Int), (0 : Int), (0 : Int), []⟩ : T_api_Event), (⟨(0 : Int), (0 : Int)⟩ : T_api_Interval)⟩ : T_api_Timed)] : List T_api_Timed)).bind fun r_1 =>
  (((sample_Leaf F ([(⟨(0 : Int), (1 : Int), (3 : Int), ([([109, 97, 105, 110] : List Int), ([102] : List Int)] : List (List Int))⟩ : T_api_Sample), (⟨(0 : Int), (2 : Int), (2 : Int), ([([109, 97, 105, 110] : List Int)] : List (List Int))⟩ : T_api_Sample), (⟨(0 : Int), (2 : Int), (4 : Int), []⟩ : T_api_Sample)] : List T_api_Sample) ([109, 97, 105, 110] : List Int)).bind fun r_2 => bif (r_2 == (2 : Int)) then ((sample_Total F ([(⟨(0 : Int), (1 : Int), (3 : Int), ([([109, 97, 105, 110] : List Int), ([102] : List Int)] : List (List Int))⟩ : T_api_Sample), (⟨(0 : Int), (2 : Int), (2 : Int), ([([109, 97, 105, 110] : List Int)] : List (List Int))⟩ : T_api_Sample), (⟨(0 : Int), (2 : Int), (4 : Int), []⟩ : T_api_Sample)] : List T_api_Sample)).bind fun r_3 => bif (r_3 == (9 : Int)) then ((sample_Check F ([(⟨(0 : Int), (1 : Int), (3 : Int), ([([109, 97, 105, 110] : List Int), ([102] : List Int)] : List (List Int))⟩ : T_api_Sample), (⟨(0 : Int), (2 : Int), (2 : Int), ([([109, 97, 105, 110] : List Int)] : List (List Int))⟩ : T_api_Sample), (⟨(0 : Int), (2 : Int), (4 : Int), []⟩ : T_api_Sample)] : List T_api_Sample)).bind fun r_4 => bif (r_4 == (0 : Int)) then ((sample_Within F ([(⟨(0 : Int), (1 : Int), (3 : Int), ([([109, 97, 105, 110] : List Int), ([102] : List Int)] : List (List Int))⟩ : T_api_Sample), (⟨(0 : Int), (2 : Int), (2 : Int), ([([109, 97, 105, 110] : List Int)] : List (List Int))⟩ : T_api_Sample), (⟨(0 : Int), (2 : Int), (4 : Int), []⟩ : T_api_Sample)] : List T_api_Sample) (⟨(2 : Int), (3 : Int)⟩ : T_api_Span)).bind fun r_5 => bif ((((r_5).length : Nat) : Int) == (2 : Int)) then ( bif ((((r_1).length : Nat) : Int) == (1 : Int)) then ((idxL r_1 (0 : Int)).bind fun x_1 => bif (x_1.Thread == (6 : Int)) then ((idxL r_1 (0 : Int)).bind fun x_2 => bif (x_2.At == (0 : Int)) then ((idxL r_1 (0 : Int)).bind fun x_3 => bif (x_3.Weight == (9 : Int)) then ((sample_Check F ([(⟨(0 : Int), (5 : Int), (1 : Int), []⟩ : T_api_Sample), (⟨(0 : Int), (4 : Int), (1 : Int), []⟩ : T_api_Sample)] : List T_api_Sample)).bind fun r_6 => some (r_6 == (11 : Int))) else ( some false)) else ( some false)) else ( some false)) else ( some false)) else ( some false)) else ( some false)) else ( some false)) else ( some false))).bind fun (p_1 : Bool) =>
  some p_1


def R07_Small_L1_body (F : Nat) (e_1 : T_api_Event) (rec : Int → Option (Unit ⊕ Bool)) (i_1 : Int) : Option (Unit ⊕ Bool) :=
  (bif decide (i_1 < (((e_1.Stack).length : Nat) : Int)) then (idxL e_1.Stack i_1).bind fun x_1 =>
  (bif decide ((((x_1).length : Nat) : Int) > (200 : Int)) then some (.inr false) else
  rec (w_i64 (i_1 + (1 : Int)))) else
  some (.inl ()))

def R07_Small_L1 (F : Nat) (e_1 : T_api_Event) : Nat → Int → Option (Unit ⊕ Bool)
  | 0, _ => none
  | n + 1, i_1 => R07_Small_L1_body F e_1 (R07_Small_L1 F e_1 n) i_1

def R07_Small (F : Nat) (e_1 : T_api_Event) : Option Bool :=
  (bif (decide ((((e_1.Name).length : Nat) : Int) > (200 : Int)) || decide ((((e_1.Stack).length : Nat) : Int) > (60 : Int))) then some false else
  (R07_Small_L1 F e_1 F (0 : Int)).bind fun (o_1 : Unit ⊕ Bool) =>
  (match o_1 with
  | (.inl q_1) =>
  some true
  | (.inr q_2) =>
  some q_2))


def R29_Time (e_1 : T_api_Timed) : Option Int :=
  some (imax (0 : Int) (imin e_1.When.Lo (1000000000000 : Int)))


def R29_Of_L1_body (F : Nat) (o_1 : List (T_api_Timed)) (rec : Int → (List T_api_Sample) → Option (List T_api_Sample)) (i_1 : Int) (row_1 : List T_api_Sample) : Option (List T_api_Sample) :=
  (bif decide (i_1 < (((o_1).length : Nat) : Int)) then (((idxL o_1 i_1).bind fun x_1 =>
  (bif (x_1.Event.Kind == (5 : Int)) then (idxL o_1 i_1).bind fun x_2 => (idxL o_1 i_1).bind fun x_3 => (R29_Time x_3).bind fun r_1 => (idxL o_1 i_1).bind fun x_4 => (idxL o_1 i_1).bind fun x_5 => (need (((row_1).length + (([(⟨x_2.Id.Thread, r_1, x_4.Event.N, x_5.Event.Stack⟩ : T_api_Sample)] : List T_api_Sample)).length) * 48 ≤ 140737488355328)).bind fun _ =>
  some (row_1 ++ ([(⟨x_2.Id.Thread, r_1, x_4.Event.N, x_5.Event.Stack⟩ : T_api_Sample)] : List T_api_Sample)) else
  some row_1) : Option (List T_api_Sample))).bind fun (o_3 : (List T_api_Sample)) =>
  rec (w_i64 (i_1 + (1 : Int))) o_3 else
  some row_1)

def R29_Of_L1 (F : Nat) (o_1 : List (T_api_Timed)) : Nat → Int → (List T_api_Sample) → Option (List T_api_Sample)
  | 0, _, _ => none
  | n + 1, i_1, row_1 => R29_Of_L1_body F o_1 (R29_Of_L1 F o_1 n) i_1 row_1

def R29_Of (F : Nat) (o_1 : List (T_api_Timed)) : Option (List (T_api_Sample)) :=
  (R29_Of_L1 F o_1 F (0 : Int) []).bind fun (o_2 : (List T_api_Sample)) =>
  some o_2


def R07_Texts_L1_body (F : Nat) (a_1 : List (List Int)) (b_1 : List (List Int)) (rec : Int → Option (Unit ⊕ Bool)) (i_1 : Int) : Option (Unit ⊕ Bool) :=
  (bif decide (i_1 < (((a_1).length : Nat) : Int)) then (idxL a_1 i_1).bind fun x_1 => (idxL b_1 i_1).bind fun x_2 =>
  (bif !(x_1 == x_2) then some (.inr false) else
  rec (w_i64 (i_1 + (1 : Int)))) else
  some (.inl ()))

def R07_Texts_L1 (F : Nat) (a_1 : List (List Int)) (b_1 : List (List Int)) : Nat → Int → Option (Unit ⊕ Bool)
  | 0, _ => none
  | n + 1, i_1 => R07_Texts_L1_body F a_1 b_1 (R07_Texts_L1 F a_1 b_1 n) i_1

def R07_Texts (F : Nat) (a_1 : List (List Int)) (b_1 : List (List Int)) : Option Bool :=
  (bif ((((a_1).length : Nat) : Int) != (((b_1).length : Nat) : Int)) then some false else
  (R07_Texts_L1 F a_1 b_1 F (0 : Int)).bind fun (o_1 : Unit ⊕ Bool) =>
  (match o_1 with
  | (.inl q_1) =>
  some true
  | (.inr q_2) =>
  some q_2))


def R29_Same_L1_body (F : Nat) (a_1 : List (T_api_Sample)) (b_1 : List (T_api_Sample)) (rec : Int → Option (Unit ⊕ Bool)) (i_1 : Int) : Option (Unit ⊕ Bool) :=
  (bif decide (i_1 < (((a_1).length : Nat) : Int)) then (((idxL a_1 i_1).bind fun x_1 => (idxL b_1 i_1).bind fun x_2 => bif (x_1.Thread != x_2.Thread) then ( some true) else ((idxL a_1 i_1).bind fun x_3 => (idxL b_1 i_1).bind fun x_4 => bif (x_3.At != x_4.At) then ( some true) else ((idxL a_1 i_1).bind fun x_5 => (idxL b_1 i_1).bind fun x_6 => bif (x_5.Weight != x_6.Weight) then ( some true) else ((idxL a_1 i_1).bind fun x_7 => (idxL b_1 i_1).bind fun x_8 => (R07_Texts F x_7.Stack x_8.Stack).bind fun r_1 => some (!r_1)))))).bind fun (p_1 : Bool) =>
  (bif p_1 then some (.inr false) else
  rec (w_i64 (i_1 + (1 : Int)))) else
  some (.inl ()))

def R29_Same_L1 (F : Nat) (a_1 : List (T_api_Sample)) (b_1 : List (T_api_Sample)) : Nat → Int → Option (Unit ⊕ Bool)
  | 0, _ => none
  | n + 1, i_1 => R29_Same_L1_body F a_1 b_1 (R29_Same_L1 F a_1 b_1 n) i_1

def R29_Same (F : Nat) (a_1 : List (T_api_Sample)) (b_1 : List (T_api_Sample)) : Option Bool :=
  (bif ((((a_1).length : Nat) : Int) != (((b_1).length : Nat) : Int)) then some false else
  (R29_Same_L1 F a_1 b_1 F (0 : Int)).bind fun (o_1 : Unit ⊕ Bool) =>
  (match o_1 with
  | (.inl q_1) =>
  some true
  | (.inr q_2) =>
  some q_2))


def L29_SampleOf_L1_body (F : Nat) (o_1 : List (T_api_Timed)) (rec : Int → Option (Unit ⊕ Bool)) (i_1 : Int) : Option (Unit ⊕ Bool) :=
  (bif decide (i_1 < (((o_1).length : Nat) : Int)) then (idxL o_1 i_1).bind fun x_1 => (R07_Small F x_1.Event).bind fun r_3 =>
  (bif !r_3 then some (.inr true) else
  rec (w_i64 (i_1 + (1 : Int)))) else
  some (.inl ()))

def L29_SampleOf_L1 (F : Nat) (o_1 : List (T_api_Timed)) : Nat → Int → Option (Unit ⊕ Bool)
  | 0, _ => none
  | n + 1, i_1 => L29_SampleOf_L1_body F o_1 (L29_SampleOf_L1 F o_1 n) i_1

def L29_SampleOf (F : Nat) (o_1 : List (T_api_Timed)) : Option Bool :=
  (((L29_awake F).bind fun r_1 => bif !r_1 then ( some true) else ( some (decide ((((o_1).length : Nat) : Int) > (60 : Int)))))).bind fun (p_1 : Bool) =>
  (bif p_1 then (L29_awake F).bind fun r_2 =>
  some r_2 else
  (L29_SampleOf_L1 F o_1 F (0 : Int)).bind fun (o_2 : Unit ⊕ Bool) =>
  (match o_2 with
  | (.inl q_1) =>
  (sample_Of F o_1).bind fun r_4 => (R29_Of F o_1).bind fun r_5 => (R29_Same F r_4 r_5).bind fun r_6 =>
  some r_6
  | (.inr q_2) =>
  some q_2))


def L29_SampleOrdered_L1_body (F : Nat) (o_1 : List (T_api_Timed)) (rec : Int → Int → Option (Int ⊕ Bool)) (n_1 : Int) (i_1 : Int) : Option (Int ⊕ Bool) :=
  (bif decide (i_1 < (((o_1).length : Nat) : Int)) then (((idxL o_1 i_1).bind fun x_1 =>
  (((R07_Small F x_1.Event).bind fun r_3 => bif !r_3 then ( some true) else ( bif decide (i_1 > (0 : Int)) then ((idxL o_1 i_1).bind fun x_2 => (idxL o_1 (w_i64 (i_1 - (1 : Int)))).bind fun x_3 => some (decide (x_2.When.Lo < x_3.When.Lo))) else ( some false)))).bind fun (p_2 : Bool) =>
  (bif p_2 then some (.inr true) else
  (bif (x_1.Event.Kind == (5 : Int)) then (idxL o_1 i_1).bind fun x_4 => (sample_Check F ([(⟨x_4.Id.Thread, (0 : Int), x_1.Event.N, x_1.Event.Stack⟩ : T_api_Sample)] : List T_api_Sample)).bind fun r_4 =>
  (bif (r_4 != (0 : Int)) then some (.inr true) else
  some (.inl (w_i64 (n_1 + (1 : Int))))) else
  some (.inl n_1))) : Option (Int ⊕ Bool))).bind fun (o_3 : Int ⊕ Bool) =>
  (match o_3 with
  | (.inl q_1) =>
  rec q_1 (w_i64 (i_1 + (1 : Int)))
  | (.inr q_2) =>
  some (.inr q_2)) else
  some (.inl n_1))

def L29_SampleOrdered_L1 (F : Nat) (o_1 : List (T_api_Timed)) : Nat → Int → Int → Option (Int ⊕ Bool)
  | 0, _, _ => none
  | n + 1, n_1, i_1 => L29_SampleOrdered_L1_body F o_1 (L29_SampleOrdered_L1 F o_1 n) n_1 i_1

def L29_SampleOrdered (F : Nat) (o_1 : List (T_api_Timed)) : Option Bool :=
  (((L29_awake F).bind fun r_1 => bif !r_1 then ( some true) else ( some (decide ((((o_1).length : Nat) : Int) > (60 : Int)))))).bind fun (p_1 : Bool) =>
  (bif p_1 then (L29_awake F).bind fun r_2 =>
  some r_2 else
  (L29_SampleOrdered_L1 F o_1 F (0 : Int) (0 : Int)).bind fun (o_2 : Int ⊕ Bool) =>
  (match o_2 with
  | (.inl q_3) =>
  (sample_Of F o_1).bind fun r_5 =>
  (( bif ((((r_5).length : Nat) : Int) == q_3) then ((sample_Check F r_5).bind fun r_6 => some (r_6 == (0 : Int))) else ( some false))).bind fun (p_3 : Bool) =>
  some p_3
  | (.inr q_4) =>
  some q_4))


def R29_Few_L1_body (F : Nat) (l_1 : List (T_api_Sample)) (rec : Int → Option (Unit ⊕ Bool)) (i_1 : Int) : Option (Unit ⊕ Bool) :=
  (bif decide (i_1 < (((l_1).length : Nat) : Int)) then (idxL l_1 i_1).bind fun x_1 => (R07_Small F (⟨(0 : Int), (0 : Int), ([] : List Int), (0 : Int), (0 : Int), x_1.Stack⟩ : T_api_Event)).bind fun r_1 =>
  (bif !r_1 then some (.inr false) else
  rec (w_i64 (i_1 + (1 : Int)))) else
  some (.inl ()))

def R29_Few_L1 (F : Nat) (l_1 : List (T_api_Sample)) : Nat → Int → Option (Unit ⊕ Bool)
  | 0, _ => none
  | n + 1, i_1 => R29_Few_L1_body F l_1 (R29_Few_L1 F l_1 n) i_1

def R29_Few (F : Nat) (l_1 : List (T_api_Sample)) : Option Bool :=
  (bif decide ((((l_1).length : Nat) : Int) > (40 : Int)) then some false else
  (R29_Few_L1 F l_1 F (0 : Int)).bind fun (o_1 : Unit ⊕ Bool) =>
  (match o_1 with
  | (.inl q_1) =>
  some true
  | (.inr q_2) =>
  some q_2))


def R29_inRange (s_1 : T_api_Sample) : Option Bool :=
  some (decide (s_1.Thread ≥ (0 : Int)) && (decide (s_1.Thread ≤ (1000000000000000 : Int)) && (decide (s_1.At ≥ (0 : Int)) && (decide (s_1.At ≤ (1000000000000 : Int)) && (decide (s_1.Weight ≥ (1 : Int)) && decide (s_1.Weight ≤ (1000000000000 : Int)))))))


def R06_letter_L1_body (F : Nat) (c_1 : Int) (rec : Int → Option (Unit ⊕ Bool)) (i_1 : Int) : Option (Unit ⊕ Bool) :=
  (bif decide (i_1 < (((([95, 46, 58, 47, 60, 62, 36, 42, 126, 45] : List Int)).length : Nat) : Int)) then (idxL ([95, 46, 58, 47, 60, 62, 36, 42, 126, 45] : List Int) i_1).bind fun c_2 =>
  (bif (c_2 == c_1) then some (.inr true) else
  rec (w_i64 (i_1 + (1 : Int)))) else
  some (.inl ()))

def R06_letter_L1 (F : Nat) (c_1 : Int) : Nat → Int → Option (Unit ⊕ Bool)
  | 0, _ => none
  | n + 1, i_1 => R06_letter_L1_body F c_1 (R06_letter_L1 F c_1 n) i_1

def R06_letter (F : Nat) (c_1 : Int) : Option Bool :=
  (bif (bif decide (c_1 ≥ (97 : Int)) then (decide (c_1 ≤ (122 : Int)) || (bif decide (c_1 ≥ (65 : Int)) then (decide (c_1 ≤ (90 : Int)) || (decide (c_1 ≥ (48 : Int)) && decide (c_1 ≤ (57 : Int)))) else (decide (c_1 ≥ (48 : Int)) && decide (c_1 ≤ (57 : Int))))) else (bif decide (c_1 ≥ (65 : Int)) then (decide (c_1 ≤ (90 : Int)) || (decide (c_1 ≥ (48 : Int)) && decide (c_1 ≤ (57 : Int)))) else (decide (c_1 ≥ (48 : Int)) && decide (c_1 ≤ (57 : Int))))) then some true else
  (R06_letter_L1 F c_1 F (0 : Int)).bind fun (o_1 : Unit ⊕ Bool) =>
  (match o_1 with
  | (.inl q_1) =>
  some false
  | (.inr q_2) =>
  some q_2))


def R06_Name_L1_body (F : Nat) (s_1 : List Int) (rec : Int → Option (Unit ⊕ Int)) (i_1 : Int) : Option (Unit ⊕ Int) :=
  (bif decide (i_1 < (((s_1).length : Nat) : Int)) then (idxL s_1 i_1).bind fun c_1 => (R06_letter F c_1).bind fun r_1 =>
  (bif !r_1 then some (.inr (3 : Int)) else
  rec (w_i64 (i_1 + (1 : Int)))) else
  some (.inl ()))

def R06_Name_L1 (F : Nat) (s_1 : List Int) : Nat → Int → Option (Unit ⊕ Int)
  | 0, _ => none
  | n + 1, i_1 => R06_Name_L1_body F s_1 (R06_Name_L1 F s_1 n) i_1

def R06_Name (F : Nat) (s_1 : List Int) : Option Int :=
  (bif (decide ((((s_1).length : Nat) : Int) < (1 : Int)) || decide ((((s_1).length : Nat) : Int) > (40 : Int))) then some (3 : Int) else
  (R06_Name_L1 F s_1 F (0 : Int)).bind fun (o_1 : Unit ⊕ Int) =>
  (match o_1 with
  | (.inl q_1) =>
  some (0 : Int)
  | (.inr q_2) =>
  some q_2))


def R06_Frames_L1_body (F : Nat) (l_1 : List (List Int)) (rec : Int → Option (Unit ⊕ Int)) (i_1 : Int) : Option (Unit ⊕ Int) :=
  (bif decide (i_1 < (((l_1).length : Nat) : Int)) then (idxL l_1 i_1).bind fun x_1 => (R06_Name F x_1).bind fun r_1 =>
  (bif (r_1 != (0 : Int)) then some (.inr (3 : Int)) else
  rec (w_i64 (i_1 + (1 : Int)))) else
  some (.inl ()))

def R06_Frames_L1 (F : Nat) (l_1 : List (List Int)) : Nat → Int → Option (Unit ⊕ Int)
  | 0, _ => none
  | n + 1, i_1 => R06_Frames_L1_body F l_1 (R06_Frames_L1 F l_1 n) i_1

def R06_Frames (F : Nat) (l_1 : List (List Int)) : Option Int :=
  (bif decide ((((l_1).length : Nat) : Int) > (32 : Int)) then some (7 : Int) else
  (R06_Frames_L1 F l_1 F (0 : Int)).bind fun (o_1 : Unit ⊕ Int) =>
  (match o_1 with
  | (.inl q_1) =>
  some (0 : Int)
  | (.inr q_2) =>
  some q_2))


def R29_Check_L1_body (F : Nat) (l_1 : List (T_api_Sample)) (rec : Int → Option (Unit ⊕ Int)) (i_1 : Int) : Option (Unit ⊕ Int) :=
  (bif decide (i_1 < (((l_1).length : Nat) : Int)) then (idxL l_1 i_1).bind fun x_1 => (R29_inRange x_1).bind fun r_1 =>
  (bif !r_1 then some (.inr (2 : Int)) else
  (idxL l_1 i_1).bind fun x_2 => (R06_Frames F x_2.Stack).bind fun r_2 =>
  (bif (r_2 != (0 : Int)) then some (.inr r_2) else
  (( bif decide (i_1 > (0 : Int)) then ((idxL l_1 i_1).bind fun x_3 => (idxL l_1 (w_i64 (i_1 - (1 : Int)))).bind fun x_4 => some (decide (x_3.At < x_4.At))) else ( some false))).bind fun (p_1 : Bool) =>
  (bif p_1 then some (.inr (11 : Int)) else
  rec (w_i64 (i_1 + (1 : Int)))))) else
  some (.inl ()))

def R29_Check_L1 (F : Nat) (l_1 : List (T_api_Sample)) : Nat → Int → Option (Unit ⊕ Int)
  | 0, _ => none
  | n + 1, i_1 => R29_Check_L1_body F l_1 (R29_Check_L1 F l_1 n) i_1

def R29_Check (F : Nat) (l_1 : List (T_api_Sample)) : Option Int :=
  (R29_Check_L1 F l_1 F (0 : Int)).bind fun (o_1 : Unit ⊕ Int) =>
  (match o_1 with
  | (.inl q_1) =>
  some (0 : Int)
  | (.inr q_2) =>
  some q_2)


def R29_Within_L1_body (F : Nat) (l_1 : List (T_api_Sample)) (s_1 : T_api_Span) (rec : Int → (List T_api_Sample) → Option (List T_api_Sample)) (i_1 : Int) (row_1 : List T_api_Sample) : Option (List T_api_Sample) :=
  (bif decide (i_1 < (((l_1).length : Nat) : Int)) then (((((idxL l_1 i_1).bind fun x_1 => bif decide (s_1.From ≤ x_1.At) then ((idxL l_1 i_1).bind fun x_2 => some (decide (x_2.At < s_1.To))) else ( some false))).bind fun (p_1 : Bool) =>
  (bif p_1 then (idxL l_1 i_1).bind fun x_3 => (need (((row_1).length + (([x_3] : List T_api_Sample)).length) * 48 ≤ 140737488355328)).bind fun _ =>
  some (row_1 ++ ([x_3] : List T_api_Sample)) else
  some row_1) : Option (List T_api_Sample))).bind fun (o_2 : (List T_api_Sample)) =>
  rec (w_i64 (i_1 + (1 : Int))) o_2 else
  some row_1)

def R29_Within_L1 (F : Nat) (l_1 : List (T_api_Sample)) (s_1 : T_api_Span) : Nat → Int → (List T_api_Sample) → Option (List T_api_Sample)
  | 0, _, _ => none
  | n + 1, i_1, row_1 => R29_Within_L1_body F l_1 s_1 (R29_Within_L1 F l_1 s_1 n) i_1 row_1

def R29_Within (F : Nat) (l_1 : List (T_api_Sample)) (s_1 : T_api_Span) : Option (List (T_api_Sample)) :=
  (R29_Within_L1 F l_1 s_1 F (0 : Int) []).bind fun (o_1 : (List T_api_Sample)) =>
  some o_1


def R29_Leaf_L1_body (F : Nat) (l_1 : List (T_api_Sample)) (name_1 : List Int) (rec : Int → Int → Option Int) (sum_1 : Int) (i_1 : Int) : Option Int :=
  (bif decide (i_1 < (((l_1).length : Nat) : Int)) then (((idxL l_1 i_1).bind fun x_1 =>
  (((idxL l_1 i_1).bind fun x_2 => (R29_inRange x_2).bind fun r_1 => bif r_1 then ( bif decide ((((x_1.Stack).length : Nat) : Int) > (0 : Int)) then ((idxL l_1 i_1).bind fun x_3 => (idxL x_3.Stack (w_i64 ((((x_1.Stack).length : Nat) : Int) - (1 : Int)))).bind fun x_4 => some (x_4 == name_1)) else ( some false)) else ( some false))).bind fun (p_1 : Bool) =>
  (bif p_1 then (idxL l_1 i_1).bind fun x_5 =>
  some (imin (1000000000000000 : Int) (w_i64 (sum_1 + x_5.Weight))) else
  some sum_1) : Option Int)).bind fun (o_2 : Int) =>
  rec o_2 (w_i64 (i_1 + (1 : Int))) else
  some sum_1)

def R29_Leaf_L1 (F : Nat) (l_1 : List (T_api_Sample)) (name_1 : List Int) : Nat → Int → Int → Option Int
  | 0, _, _ => none
  | n + 1, sum_1, i_1 => R29_Leaf_L1_body F l_1 name_1 (R29_Leaf_L1 F l_1 name_1 n) sum_1 i_1

def R29_Leaf (F : Nat) (l_1 : List (T_api_Sample)) (name_1 : List Int) : Option Int :=
  (R29_Leaf_L1 F l_1 name_1 F (0 : Int) (0 : Int)).bind fun (o_1 : Int) =>
  some o_1


def R29_Total_L1_body (F : Nat) (l_1 : List (T_api_Sample)) (rec : Int → Int → Option Int) (sum_1 : Int) (i_1 : Int) : Option Int :=
  (bif decide (i_1 < (((l_1).length : Nat) : Int)) then (((idxL l_1 i_1).bind fun x_1 => (R29_inRange x_1).bind fun r_1 =>
  (bif r_1 then (idxL l_1 i_1).bind fun x_2 =>
  some (imin (1000000000000000 : Int) (w_i64 (sum_1 + x_2.Weight))) else
  some sum_1) : Option Int)).bind fun (o_2 : Int) =>
  rec o_2 (w_i64 (i_1 + (1 : Int))) else
  some sum_1)

def R29_Total_L1 (F : Nat) (l_1 : List (T_api_Sample)) : Nat → Int → Int → Option Int
  | 0, _, _ => none
  | n + 1, sum_1, i_1 => R29_Total_L1_body F l_1 (R29_Total_L1 F l_1 n) sum_1 i_1

def R29_Total (F : Nat) (l_1 : List (T_api_Sample)) : Option Int :=
  (R29_Total_L1 F l_1 F (0 : Int) (0 : Int)).bind fun (o_1 : Int) =>
  some o_1


def L29_SampleChecks (F : Nat) (l_1 : List (T_api_Sample)) (s_1 : T_api_Span) (name_1 : List Int) : Option Bool :=
  (((L29_awake F).bind fun r_1 => bif !r_1 then ( some true) else ((R29_Few F l_1).bind fun r_2 => bif !r_2 then ( some true) else ( some (decide ((((name_1).length : Nat) : Int) > (200 : Int))))))).bind fun (p_1 : Bool) =>
  (bif p_1 then (L29_awake F).bind fun r_3 =>
  some r_3 else
  (((sample_Check F l_1).bind fun r_4 => (R29_Check F l_1).bind fun r_5 => bif (r_4 == r_5) then ((sample_Within F l_1 s_1).bind fun r_6 => (R29_Within F l_1 s_1).bind fun r_7 => (R29_Same F r_6 r_7).bind fun r_8 => bif r_8 then ((sample_Leaf F l_1 name_1).bind fun r_9 => (R29_Leaf F l_1 name_1).bind fun r_10 => bif (r_9 == r_10) then ((sample_Total F l_1).bind fun r_11 => (R29_Total F l_1).bind fun r_12 => some (r_11 == r_12)) else ( some false)) else ( some false)) else ( some false))).bind fun (p_2 : Bool) =>
  some p_2)


structure Arr3_Int where
  c0 : Int
  c1 : Int
  c2 : Int
  deriving DecidableEq, Inhabited
def e_Arr3_Int (s : Arr3_Int) : AV := .agg [.int .i64 s.c0, .int .i64 s.c1, .int .i64 s.c2]

def L29_SampleDivides (F : Nat) (l_1 : List (T_api_Sample)) (cut_1 : Arr3_Int) : Option Bool :=
  (((L29_awake F).bind fun r_1 => bif !r_1 then ( some true) else ((R29_Few F l_1).bind fun r_2 => bif !r_2 then ( some true) else ( bif decide (cut_1.c0 > cut_1.c1) then ( some true) else ( some (decide (cut_1.c1 > cut_1.c2))))))).bind fun (p_1 : Bool) =>
  (bif p_1 then (L29_awake F).bind fun r_3 =>
  some r_3 else
  (sample_Within F l_1 (⟨cut_1.c0, cut_1.c1⟩ : T_api_Span)).bind fun r_4 =>
  (sample_Within F l_1 (⟨cut_1.c1, cut_1.c2⟩ : T_api_Span)).bind fun r_5 =>
  (sample_Within F l_1 (⟨cut_1.c0, cut_1.c2⟩ : T_api_Span)).bind fun r_6 =>
  (( bif ((w_i64 ((((r_4).length : Nat) : Int) + (((r_5).length : Nat) : Int))) == (((r_6).length : Nat) : Int)) then ((sample_Total F r_4).bind fun r_7 => (sample_Total F r_5).bind fun r_8 => (sample_Total F r_6).bind fun r_9 => some ((imin (1000000000000000 : Int) (w_i64 (r_7 + r_8))) == r_9)) else ( some false))).bind fun (p_2 : Bool) =>
  some p_2)


def L29_SampleLeaves_L2_body (F : Nat) (row_1 : List (List Int)) (x_4 : List Int) (rec : Bool → Int → Option Bool) (old_1 : Bool) (k_1 : Int) : Option Bool :=
  (bif decide (k_1 < (((row_1).length : Nat) : Int)) then (( bif old_1 then ( some true) else ((idxL row_1 k_1).bind fun x_5 => some (x_5 == x_4)))).bind fun (p_2 : Bool) =>
  rec p_2 (w_i64 (k_1 + (1 : Int))) else
  some old_1)

def L29_SampleLeaves_L2 (F : Nat) (row_1 : List (List Int)) (x_4 : List Int) : Nat → Bool → Int → Option Bool
  | 0, _, _ => none
  | n + 1, old_1, k_1 => L29_SampleLeaves_L2_body F row_1 x_4 (L29_SampleLeaves_L2 F row_1 x_4 n) old_1 k_1

def L29_SampleLeaves_L1_body (F : Nat) (l_1 : List (T_api_Sample)) (rec : Int → Int → (List (List Int)) → (List T_api_Sample) → Option (Int × (List T_api_Sample))) (sum_1 : Int) (i_1 : Int) (row_1 : List (List Int)) (row_2 : List T_api_Sample) : Option (Int × (List T_api_Sample)) :=
  (bif decide (i_1 < (((l_1).length : Nat) : Int)) then (((idxL l_1 i_1).bind fun x_1 =>
  (bif ((((x_1.Stack).length : Nat) : Int) == (0 : Int)) then (idxL l_1 i_1).bind fun x_2 => (need (((row_2).length + (([x_2] : List T_api_Sample)).length) * 48 ≤ 140737488355328)).bind fun _ =>
  some (sum_1, row_1, (row_2 ++ ([x_2] : List T_api_Sample))) else
  (idxL l_1 i_1).bind fun x_3 => (idxL x_3.Stack (w_i64 ((((x_1.Stack).length : Nat) : Int) - (1 : Int)))).bind fun x_4 =>
  (L29_SampleLeaves_L2 F row_1 x_4 F false (0 : Int)).bind fun (o_3 : Bool) =>
  (bif !o_3 then (need (((row_1).length + (([x_4] : List (List Int))).length) * 16 ≤ 140737488355328)).bind fun _ =>
  (sample_Leaf F l_1 x_4).bind fun r_4 =>
  some (w_i64 (sum_1 + r_4), (row_1 ++ ([x_4] : List (List Int))), row_2) else
  some (sum_1, row_1, row_2))) : Option (Int × (List (List Int)) × (List T_api_Sample)))).bind fun (o_2 : (Int × (List (List Int)) × (List T_api_Sample))) =>
  rec o_2.1 (w_i64 (i_1 + (1 : Int))) o_2.2.1 o_2.2.2 else
  some (sum_1, row_2))

def L29_SampleLeaves_L1 (F : Nat) (l_1 : List (T_api_Sample)) : Nat → Int → Int → (List (List Int)) → (List T_api_Sample) → Option (Int × (List T_api_Sample))
  | 0, _, _, _, _ => none
  | n + 1, sum_1, i_1, row_1, row_2 => L29_SampleLeaves_L1_body F l_1 (L29_SampleLeaves_L1 F l_1 n) sum_1 i_1 row_1 row_2

def L29_SampleLeaves (F : Nat) (l_1 : List (T_api_Sample)) : Option Bool :=
  (((L29_awake F).bind fun r_1 => bif !r_1 then ( some true) else ((R29_Few F l_1).bind fun r_2 => some (!r_2)))).bind fun (p_1 : Bool) =>
  (bif p_1 then (L29_awake F).bind fun r_3 =>
  some r_3 else
  (L29_SampleLeaves_L1 F l_1 F (0 : Int) (0 : Int) [] []).bind fun (o_1 : (Int × (List T_api_Sample))) =>
  (sample_Total F o_1.2).bind fun r_5 => (sample_Total F l_1).bind fun r_6 =>
  some ((imin (1000000000000000 : Int) (w_i64 (o_1.1 + r_5))) == r_6))


end Go.Ab
