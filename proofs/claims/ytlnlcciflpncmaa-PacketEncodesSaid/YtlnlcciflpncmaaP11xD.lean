/- Printed: the typed Lean functions of the Go functions, or the proofs that the Go functions meet them. No conditions but those that the theorems name. -/
import Derived.Test.YtlnlcciflpncmaaA35
import Derived.Test.YtlnlcciflpncmaaA42
namespace Go.Ab
open Go
set_option linter.unusedVariables false
structure T_api_Event where
  At : Int
  Kind : Int
  Name : List Int
  N : Int
  M : Int
  Stack : List (List Int)
  deriving DecidableEq, Inhabited
def v_T_api_Event (s : T_api_Event) : List AV := [.int .i64 s.At, .int .i64 s.Kind, .str s.Name, .int .i64 s.N, .int .i64 s.M, .sl false 1 (List.map AV.str s.Stack)]
def e_T_api_Event (s : T_api_Event) : AV := .agg (v_T_api_Event s)
structure T_api_Packet where
  Thread : Int
  Serial : Int
  Lost : Int
  Events : List (T_api_Event)
  deriving DecidableEq, Inhabited
def v_T_api_Packet (s : T_api_Packet) : List AV := [.int .i64 s.Thread, .int .i64 s.Serial, .int .i64 s.Lost, .sl false 6 (List.map e_T_api_Event s.Events)]
def e_T_api_Packet (s : T_api_Packet) : AV := .agg (v_T_api_Packet s)
def L11_few_L1_body (F : Nat) (p_1 : T_api_Packet) (rec : Int → Option (Unit ⊕ Bool)) (i_1 : Int) : Option (Unit ⊕ Bool) :=
  (bif decide (i_1 < (((p_1.Events).length : Nat) : Int)) then (idxL p_1.Events i_1).bind fun x_1 =>
  (bif decide ((((x_1.Stack).length : Nat) : Int) > (40 : Int)) then some (.inr false) else
  rec (w_i64 (i_1 + (1 : Int)))) else
  some (.inl ()))
def L11_few_L1 (F : Nat) (p_1 : T_api_Packet) : Nat → Int → Option (Unit ⊕ Bool)
  | 0, _ => none
  | n + 1, i_1 => L11_few_L1_body F p_1 (L11_few_L1 F p_1 n) i_1
def L11_few (F : Nat) (p_1 : T_api_Packet) : Option Bool :=
  (bif decide ((((p_1.Events).length : Nat) : Int) > (30 : Int)) then some false else
  (L11_few_L1 F p_1 F (0 : Int)).bind fun (o_1 : Unit ⊕ Bool) =>
  (match o_1 with
  | (.inl q_1) =>
  some true
  | (.inr q_2) =>
  some q_2))
structure T_event_form where
  word : List Int
  name : Bool
  n : Bool
  m : Bool
  stack : Bool
  least : Int
  most : Int
  mLeast : Int
  mMost : Int
  deriving DecidableEq, Inhabited
def v_T_event_form (s : T_event_form) : List AV := [.str s.word, .bool s.name, .bool s.n, .bool s.m, .bool s.stack, .int .i64 s.least, .int .i64 s.most, .int .i64 s.mLeast, .int .i64 s.mMost]
def e_T_event_form (s : T_event_form) : AV := .agg (v_T_event_form s)
def event_forms : Option (List (T_event_form)) :=
  some ([(⟨([] : List Int), false, false, false, false, (0 : Int), (0 : Int), (0 : Int), (0 : Int)⟩ : T_event_form), (⟨([98, 101, 103, 105, 110] : List Int), true, false, false, false, (0 : Int), (0 : Int), (0 : Int), (0 : Int)⟩ : T_event_form), (⟨([101, 110, 100] : List Int), false, false, false, false, (0 : Int), (0 : Int), (0 : Int), (0 : Int)⟩ : T_event_form), (⟨([109, 97, 114, 107] : List Int), true, false, false, false, (0 : Int), (0 : Int), (0 : Int), (0 : Int)⟩ : T_event_form), (⟨([99, 111, 117, 110, 116] : List Int), true, true, false, false, (-1000000000000000 : Int), (1000000000000000 : Int), (0 : Int), (0 : Int)⟩ : T_event_form), (⟨([115, 97, 109, 112, 108, 101] : List Int), false, true, false, true, (1 : Int), (1000000000000 : Int), (0 : Int), (0 : Int)⟩ : T_event_form), (⟨([115, 101, 110, 100] : List Int), false, true, false, false, (0 : Int), (1000000000000000 : Int), (0 : Int), (0 : Int)⟩ : T_event_form), (⟨([114, 101, 99, 118] : List Int), false, true, false, false, (0 : Int), (1000000000000000 : Int), (0 : Int), (0 : Int)⟩ : T_event_form), (⟨([114, 117, 110] : List Int), false, true, false, false, (0 : Int), (63 : Int), (0 : Int), (0 : Int)⟩ : T_event_form), (⟨([115, 116, 111, 112] : List Int), false, true, true, false, (0 : Int), (3 : Int), (0 : Int), (1000000000000000 : Int)⟩ : T_event_form), (⟨([119, 97, 107, 101] : List Int), false, true, false, false, (0 : Int), (1000000000000000 : Int), (0 : Int), (0 : Int)⟩ : T_event_form), (⟨([97, 108, 108, 111, 99] : List Int), false, true, true, true, (0 : Int), (1000000000000000 : Int), (1 : Int), (1000000000000 : Int)⟩ : T_event_form), (⟨([102, 114, 101, 101] : List Int), false, true, false, false, (0 : Int), (1000000000000000 : Int), (0 : Int), (0 : Int)⟩ : T_event_form)] : List T_event_form)
def event_formOf (k_1 : Int) : Option (T_event_form × Bool) :=
  (event_forms ).bind fun r_1 =>
  (bif (decide (k_1 < (1 : Int)) || decide (k_1 ≥ (((r_1).length : Nat) : Int))) then some ((⟨([] : List Int), false, false, false, false, (0 : Int), (0 : Int), (0 : Int), (0 : Int)⟩ : T_event_form), false) else
  (idxL r_1 k_1).bind fun x_1 =>
  some (x_1, true))
def stringslite_IndexByte (s_1 : List Int) (c_1 : Int) : Option Int :=
  some (idxByte s_1 c_1)
def strings_IndexByte (s_1 : List Int) (c_1 : Int) : Option Int :=
  (stringslite_IndexByte s_1 c_1).bind fun r_1 =>
  some r_1
def intern_letter (c_1 : Int) : Option Bool :=
  (( bif decide (c_1 ≥ (97 : Int)) then ( bif decide (c_1 ≤ (122 : Int)) then ( some true) else ( bif decide (c_1 ≥ (65 : Int)) then ( bif decide (c_1 ≤ (90 : Int)) then ( some true) else ( bif decide (c_1 ≥ (48 : Int)) then ( bif decide (c_1 ≤ (57 : Int)) then ( some true) else ((strings_IndexByte ([95, 46, 58, 47, 60, 62, 36, 42, 126, 45] : List Int) c_1).bind fun r_1 => some (decide (r_1 ≥ (0 : Int))))) else ((strings_IndexByte ([95, 46, 58, 47, 60, 62, 36, 42, 126, 45] : List Int) c_1).bind fun r_1 => some (decide (r_1 ≥ (0 : Int)))))) else ( bif decide (c_1 ≥ (48 : Int)) then ( bif decide (c_1 ≤ (57 : Int)) then ( some true) else ((strings_IndexByte ([95, 46, 58, 47, 60, 62, 36, 42, 126, 45] : List Int) c_1).bind fun r_1 => some (decide (r_1 ≥ (0 : Int))))) else ((strings_IndexByte ([95, 46, 58, 47, 60, 62, 36, 42, 126, 45] : List Int) c_1).bind fun r_1 => some (decide (r_1 ≥ (0 : Int))))))) else ( bif decide (c_1 ≥ (65 : Int)) then ( bif decide (c_1 ≤ (90 : Int)) then ( some true) else ( bif decide (c_1 ≥ (48 : Int)) then ( bif decide (c_1 ≤ (57 : Int)) then ( some true) else ((strings_IndexByte ([95, 46, 58, 47, 60, 62, 36, 42, 126, 45] : List Int) c_1).bind fun r_1 => some (decide (r_1 ≥ (0 : Int))))) else ((strings_IndexByte ([95, 46, 58, 47, 60, 62, 36, 42, 126, 45] : List Int) c_1).bind fun r_1 => some (decide (r_1 ≥ (0 : Int)))))) else ( bif decide (c_1 ≥ (48 : Int)) then ( bif decide (c_1 ≤ (57 : Int)) then ( some true) else ((strings_IndexByte ([95, 46, 58, 47, 60, 62, 36, 42, 126, 45] : List Int) c_1).bind fun r_1 => some (decide (r_1 ≥ (0 : Int))))) else ((strings_IndexByte ([95, 46, 58, 47, 60, 62, 36, 42, 126, 45] : List Int) c_1).bind fun r_1 => some (decide (r_1 ≥ (0 : Int)))))))).bind fun (p_1 : Bool) =>
  some p_1
def intern_Name_L1_body (F : Nat) (s_1 : List Int) (rec : Int → Option (Unit ⊕ Int)) (v_1 : Int) : Option (Unit ⊕ Int) :=
  (bif decide (v_1 < (((s_1).length : Nat) : Int)) then (idxL s_1 v_1).bind fun c_1 => (intern_letter c_1).bind fun r_1 =>
  (bif !r_1 then some (.inr (3 : Int)) else
  rec (w_i64 (v_1 + (1 : Int)))) else
  some (.inl ()))
def intern_Name_L1 (F : Nat) (s_1 : List Int) : Nat → Int → Option (Unit ⊕ Int)
  | 0, _ => none
  | n + 1, v_1 => intern_Name_L1_body F s_1 (intern_Name_L1 F s_1 n) v_1
def intern_Name (F : Nat) (s_1 : List Int) : Option Int :=
  (bif ((s_1 == ([] : List Int)) || decide ((((s_1).length : Nat) : Int) > (40 : Int))) then some (3 : Int) else
  (intern_Name_L1 F s_1 F (0 : Int)).bind fun (o_1 : Unit ⊕ Int) =>
  (match o_1 with
  | (.inl q_1) =>
  some (0 : Int)
  | (.inr q_2) =>
  some q_2))
def intern_Frames_L1_body (F : Nat) (l_1 : List (List Int)) (rec : Int → Option (Unit ⊕ Int)) (v_1 : Int) : Option (Unit ⊕ Int) :=
  (bif decide (v_1 < (((l_1).length : Nat) : Int)) then (idxL l_1 v_1).bind fun x_1 =>
  (intern_Name F x_1).bind fun r_1 =>
  (bif (r_1 != (0 : Int)) then some (.inr r_1) else
  rec (w_i64 (v_1 + (1 : Int)))) else
  some (.inl ()))
def intern_Frames_L1 (F : Nat) (l_1 : List (List Int)) : Nat → Int → Option (Unit ⊕ Int)
  | 0, _ => none
  | n + 1, v_1 => intern_Frames_L1_body F l_1 (intern_Frames_L1 F l_1 n) v_1
def intern_Frames (F : Nat) (l_1 : List (List Int)) : Option Int :=
  (bif decide ((((l_1).length : Nat) : Int) > (32 : Int)) then some (7 : Int) else
  (intern_Frames_L1 F l_1 F (0 : Int)).bind fun (o_1 : Unit ⊕ Int) =>
  (match o_1 with
  | (.inl q_1) =>
  some (0 : Int)
  | (.inr q_2) =>
  some q_2))
def event_names (F : Nat) (f_1 : T_event_form) (e_1 : T_api_Event) : Option Int :=
  (bif f_1.name then (intern_Name F e_1.Name).bind fun r_1 =>
  some r_1 else
  (intern_Frames F e_1.Stack).bind fun r_2 =>
  some r_2)
def event_Check (F : Nat) (e_1 : T_api_Event) : Option Int :=
  (bif (decide (e_1.At < (0 : Int)) || decide (e_1.At > (1000000000000 : Int))) then some (2 : Int) else
  (event_formOf e_1.Kind).bind fun r_1 =>
  (( bif !r_1.2 then ( some true) else ( bif !r_1.1.name then ( bif !(e_1.Name == ([] : List Int)) then ( some true) else ( bif !r_1.1.n then ( bif (e_1.N != (0 : Int)) then ( some true) else ( bif !r_1.1.m then ( bif (e_1.M != (0 : Int)) then ( some true) else ( bif !r_1.1.stack then ( some (decide ((((e_1.Stack).length : Nat) : Int) > (0 : Int)))) else ( some false))) else ( bif !r_1.1.stack then ( some (decide ((((e_1.Stack).length : Nat) : Int) > (0 : Int)))) else ( some false)))) else ( bif !r_1.1.m then ( bif (e_1.M != (0 : Int)) then ( some true) else ( bif !r_1.1.stack then ( some (decide ((((e_1.Stack).length : Nat) : Int) > (0 : Int)))) else ( some false))) else ( bif !r_1.1.stack then ( some (decide ((((e_1.Stack).length : Nat) : Int) > (0 : Int)))) else ( some false))))) else ( bif !r_1.1.n then ( bif (e_1.N != (0 : Int)) then ( some true) else ( bif !r_1.1.m then ( bif (e_1.M != (0 : Int)) then ( some true) else ( bif !r_1.1.stack then ( some (decide ((((e_1.Stack).length : Nat) : Int) > (0 : Int)))) else ( some false))) else ( bif !r_1.1.stack then ( some (decide ((((e_1.Stack).length : Nat) : Int) > (0 : Int)))) else ( some false)))) else ( bif !r_1.1.m then ( bif (e_1.M != (0 : Int)) then ( some true) else ( bif !r_1.1.stack then ( some (decide ((((e_1.Stack).length : Nat) : Int) > (0 : Int)))) else ( some false))) else ( bif !r_1.1.stack then ( some (decide ((((e_1.Stack).length : Nat) : Int) > (0 : Int)))) else ( some false))))))).bind fun (p_1 : Bool) =>
  (bif p_1 then some (1 : Int) else
  (event_names F r_1.1 e_1).bind fun r_2 =>
  (bif (r_2 != (0 : Int)) then some r_2 else
  (bif (r_1.1.n && (decide (e_1.N < r_1.1.least) || decide (e_1.N > r_1.1.most))) then some (2 : Int) else
  (bif ((e_1.Kind == (9 : Int)) && ((e_1.N != (2 : Int)) && (e_1.M != (0 : Int)))) then some (1 : Int) else
  (bif (r_1.1.m && (bif decide (e_1.M < r_1.1.mLeast) then ((e_1.Kind != (9 : Int)) || (e_1.N == (2 : Int))) else (decide (e_1.M > r_1.1.mMost) && ((e_1.Kind != (9 : Int)) || (e_1.N == (2 : Int)))))) then some (2 : Int) else
  some (0 : Int)))))))
def event_CheckAll_L1_body (F : Nat) (l_1 : List (T_api_Event)) (rec : Int → Option (Unit ⊕ Int)) (v_1 : Int) : Option (Unit ⊕ Int) :=
  (bif decide (v_1 < (((l_1).length : Nat) : Int)) then (idxL l_1 v_1).bind fun x_1 =>
  (event_Check F x_1).bind fun r_1 =>
  (bif (r_1 != (0 : Int)) then some (.inr r_1) else
  (( bif decide (v_1 > (0 : Int)) then ((idxL l_1 (w_i64 (v_1 - (1 : Int)))).bind fun x_2 => some (decide (x_1.At < x_2.At))) else ( some false))).bind fun (p_1 : Bool) =>
  (bif p_1 then some (.inr (11 : Int)) else
  rec (w_i64 (v_1 + (1 : Int))))) else
  some (.inl ()))
def event_CheckAll_L1 (F : Nat) (l_1 : List (T_api_Event)) : Nat → Int → Option (Unit ⊕ Int)
  | 0, _ => none
  | n + 1, v_1 => event_CheckAll_L1_body F l_1 (event_CheckAll_L1 F l_1 n) v_1
def event_CheckAll (F : Nat) (l_1 : List (T_api_Event)) : Option Int :=
  (event_CheckAll_L1 F l_1 F (0 : Int)).bind fun (o_1 : Unit ⊕ Int) =>
  (match o_1 with
  | (.inl q_1) =>
  some (0 : Int)
  | (.inr q_2) =>
  some q_2)
def packet_Check_L1_body (F : Nat) (p_1 : T_api_Packet) (rec : Int → Option (Unit ⊕ Int)) (v_1 : Int) : Option (Unit ⊕ Int) :=
  (bif decide (v_1 < ((3 : Nat) : Int)) then (idxL ([p_1.Thread, p_1.Serial, p_1.Lost] : List Int) v_1).bind fun x_1 =>
  (bif (decide (x_1 < (0 : Int)) || decide (x_1 > (1000000000000000 : Int))) then some (.inr (2 : Int)) else
  rec (w_i64 (v_1 + (1 : Int)))) else
  some (.inl ()))
def packet_Check_L1 (F : Nat) (p_1 : T_api_Packet) : Nat → Int → Option (Unit ⊕ Int)
  | 0, _ => none
  | n + 1, v_1 => packet_Check_L1_body F p_1 (packet_Check_L1 F p_1 n) v_1
def packet_Check (F : Nat) (p_1 : T_api_Packet) : Option Int :=
  (packet_Check_L1 F p_1 F (0 : Int)).bind fun (o_1 : Unit ⊕ Int) =>
  (match o_1 with
  | (.inl q_1) =>
  (((bif decide (p_1.Lost > p_1.Serial) then some (decide (p_1.Lost > p_1.Serial)) else
  some (decide ((w_i64 (p_1.Serial + (((p_1.Events).length : Nat) : Int))) > (1000000000000000 : Int)))) : Option Bool)).bind fun (o_2 : Bool) =>
  (bif o_2 then some (2 : Int) else
  (bif ((((p_1.Events).length : Nat) : Int) == (0 : Int)) then some (8 : Int) else
  (bif decide ((((p_1.Events).length : Nat) : Int) > (1000 : Int)) then some (7 : Int) else
  (event_CheckAll F p_1.Events).bind fun r_1 =>
  some r_1)))
  | (.inr q_2) =>
  some q_2)
structure Arr2_Int where
  c0 : Int
  c1 : Int
  deriving DecidableEq, Inhabited
def v_Arr2_Int (s : Arr2_Int) : List AV := [.int .i64 s.c0, .int .i64 s.c1]
def e_Arr2_Int (s : Arr2_Int) : AV := .agg (v_Arr2_Int s)
def intern_checkNames_L1_body (F : Nat) (names_1 : List (List Int)) (rec : Int → (List ((List Int) × Bool)) → Option (Unit ⊕ Int)) (v_1 : Int) (row_1 : List ((List Int) × Bool)) : Option (Unit ⊕ Int) :=
  (bif decide (v_1 < (((names_1).length : Nat) : Int)) then (idxL names_1 v_1).bind fun x_1 =>
  (intern_Name F x_1).bind fun r_1 =>
  (bif (r_1 != (0 : Int)) then some (.inr r_1) else
  (bif ((mget row_1 x_1).getD false) then some (.inr (4 : Int)) else
  (need ((row_1).length < 140737488355328)).bind fun _ =>
  rec (w_i64 (v_1 + (1 : Int))) (mput row_1 x_1 true))) else
  some (.inl ()))
def intern_checkNames_L1 (F : Nat) (names_1 : List (List Int)) : Nat → Int → (List ((List Int) × Bool)) → Option (Unit ⊕ Int)
  | 0, _, _ => none
  | n + 1, v_1, row_1 => intern_checkNames_L1_body F names_1 (intern_checkNames_L1 F names_1 n) v_1 row_1
def intern_checkNames (F : Nat) (names_1 : List (List Int)) : Option Int :=
  (intern_checkNames_L1 F names_1 F (0 : Int) []).bind fun (o_1 : Unit ⊕ Int) =>
  (match o_1 with
  | (.inl q_1) =>
  some (0 : Int)
  | (.inr q_2) =>
  some q_2)
def intern_Check_L1_body (F : Nat) (names_1 : List (List Int)) (stacks_1 : List (Arr2_Int)) (rec : Int → (List (Arr2_Int × Bool)) → (List Int) → Option (Unit ⊕ Int)) (v_1 : Int) (row_1 : List (Arr2_Int × Bool)) (row_2 : List Int) : Option (Unit ⊕ Int) :=
  (bif decide (v_1 < (((stacks_1).length : Nat) : Int)) then (idxL stacks_1 v_1).bind fun x_1 =>
  (bif (decide (x_1.c0 < (-1 : Int)) || (decide (x_1.c0 ≥ v_1) || (decide (x_1.c1 < (0 : Int)) || decide (x_1.c1 ≥ (((names_1).length : Nat) : Int))))) then some (.inr (2 : Int)) else
  (bif ((mget row_1 x_1).getD false) then some (.inr (4 : Int)) else
  (need ((row_1).length < 140737488355328)).bind fun _ =>
  (idxL row_2 v_1).bind fun x_2 =>
  (((bif (x_1.c0 != (-1 : Int)) then (idxL ((row_2).set ((v_1).toNat) (1 : Int)) v_1).bind fun x_3 => (idxL ((row_2).set ((v_1).toNat) (1 : Int)) x_1.c0).bind fun x_4 => (idxL ((row_2).set ((v_1).toNat) (1 : Int)) v_1).bind fun x_5 =>
  some (((row_2).set ((v_1).toNat) (1 : Int)).set ((v_1).toNat) (w_i64 (x_3 + x_4))) else
  some ((row_2).set ((v_1).toNat) (1 : Int))) : Option (List Int))).bind fun (o_2 : (List Int)) =>
  (idxL o_2 v_1).bind fun x_6 =>
  (bif decide (x_6 > (32 : Int)) then some (.inr (7 : Int)) else
  rec (w_i64 (v_1 + (1 : Int))) (mput row_1 x_1 true) o_2))) else
  some (.inl ()))
def intern_Check_L1 (F : Nat) (names_1 : List (List Int)) (stacks_1 : List (Arr2_Int)) : Nat → Int → (List (Arr2_Int × Bool)) → (List Int) → Option (Unit ⊕ Int)
  | 0, _, _, _ => none
  | n + 1, v_1, row_1, row_2 => intern_Check_L1_body F names_1 stacks_1 (intern_Check_L1 F names_1 stacks_1 n) v_1 row_1 row_2
def intern_Check (F : Nat) (names_1 : List (List Int)) (stacks_1 : List (Arr2_Int)) : Option Int :=
  (bif (decide ((((names_1).length : Nat) : Int) > (1000 : Int)) || decide ((((stacks_1).length : Nat) : Int) > (1000 : Int))) then some (7 : Int) else
  (intern_checkNames F names_1).bind fun r_1 =>
  (bif (r_1 != (0 : Int)) then some r_1 else
  (need (((stacks_1).length) * 8 ≤ 281474976710656)).bind fun _ =>
  (intern_Check_L1 F names_1 stacks_1 F (0 : Int) [] (List.replicate ((stacks_1).length) (0 : Int))).bind fun (o_1 : Unit ⊕ Int) =>
  (match o_1 with
  | (.inl q_1) =>
  some (0 : Int)
  | (.inr q_2) =>
  some q_2)))
def record_uses (k_1 : Int) : Option (Bool × Bool × Bool × Bool) :=
  some (((k_1 == (1 : Int)) || ((k_1 == (3 : Int)) || (k_1 == (4 : Int)))), decide (k_1 ≥ (4 : Int)), ((k_1 == (9 : Int)) || (k_1 == (11 : Int))), ((k_1 == (5 : Int)) || (k_1 == (11 : Int))))
def codec_number (n_1 : Int) : Option Int :=
  some (ixor .u64 (ishl .u64 (w_u64 n_1) (1 : Int)) (w_u64 (ishr .i64 n_1 (63 : Int))))
def codec_PutInt_L1_body (F : Nat) (rec : Int → Int → (List Int) → Option (Int × (List Int))) (size_1 : Int) (u_1 : Int) (row_1 : List Int) : Option (Int × (List Int)) :=
  (need ((0 : Int) ≤ size_1 ∧ size_1 < ((10 : Nat) : Int))).bind fun _ => ((row_1)[(size_1).toNat]?).bind fun x_1 =>
  (bif decide (u_1 < (128 : Int)) then some (w_i64 (size_1 + (1 : Int)), (row_1).set ((size_1).toNat) (w_u8 (iand .u64 u_1 (127 : Int)))) else
  (need ((0 : Int) ≤ (w_i64 ((w_i64 (size_1 + (1 : Int))) - (1 : Int))) ∧ (w_i64 ((w_i64 (size_1 + (1 : Int))) - (1 : Int))) < ((10 : Nat) : Int))).bind fun _ => (((row_1).set ((size_1).toNat) (w_u8 (iand .u64 u_1 (127 : Int))))[(w_i64 ((w_i64 (size_1 + (1 : Int))) - (1 : Int))).toNat]?).bind fun x_2 => (need ((0 : Int) ≤ (w_i64 ((w_i64 (size_1 + (1 : Int))) - (1 : Int))) ∧ (w_i64 ((w_i64 (size_1 + (1 : Int))) - (1 : Int))) < ((10 : Nat) : Int))).bind fun _ => (((row_1).set ((size_1).toNat) (w_u8 (iand .u64 u_1 (127 : Int))))[(w_i64 ((w_i64 (size_1 + (1 : Int))) - (1 : Int))).toNat]?).bind fun x_3 =>
  rec (w_i64 (size_1 + (1 : Int))) (ishr .u64 u_1 (7 : Int)) (((row_1).set ((size_1).toNat) (w_u8 (iand .u64 u_1 (127 : Int)))).set ((w_i64 ((w_i64 (size_1 + (1 : Int))) - (1 : Int))).toNat) (ior .u8 x_2 (128 : Int))))
def codec_PutInt_L1 (F : Nat) : Nat → Int → Int → (List Int) → Option (Int × (List Int))
  | 0, _, _, _ => none
  | n + 1, size_1, u_1, row_1 => codec_PutInt_L1_body F (codec_PutInt_L1 F n) size_1 u_1 row_1
def codec_PutInt (F : Nat) (b_1 : List (Int)) (n_1 : Int) : Option (List (Int)) :=
  (codec_number n_1).bind fun r_1 =>
  (codec_PutInt_L1 F F (0 : Int) r_1 (List.replicate 10 (0 : Int))).bind fun (o_1 : (Int × (List Int))) =>
  (need ((0 : Int) ≤ o_1.1 ∧ o_1.1 ≤ ((10 : Nat) : Int) ∧ 10 ≤ (o_1.2).length)).bind fun _ => (need (0 ≤ ((o_1.1).toNat) ∧ ((o_1.1).toNat) ≤ (o_1.2).length)).bind fun _ => (need (((sub b_1 (0 : Int) (((b_1).length : Nat) : Int)).length + (((o_1.2).take ((o_1.1).toNat)).drop 0).length) * 1 ≤ 140737488355328)).bind fun _ => (need (0 < (((o_1.2).take ((o_1.1).toNat)).drop 0).length ∨ (sub b_1 (0 : Int) (((b_1).length : Nat) : Int)).length = 0)).bind fun _ =>
  some ((sub b_1 (0 : Int) (((b_1).length : Nat) : Int)) ++ (((o_1.2).take ((o_1.1).toNat)).drop 0))
def slices_Index_string_string_L1_body (F : Nat) (s_1 : List (List Int)) (a_1 : List Int) (rec : Int → Option (Unit ⊕ Int)) (v_1 : Int) : Option (Unit ⊕ Int) :=
  (bif decide (v_1 < (((s_1).length : Nat) : Int)) then (idxL s_1 v_1).bind fun x_1 =>
  (bif (a_1 == x_1) then some (.inr v_1) else
  rec (w_i64 (v_1 + (1 : Int)))) else
  some (.inl ()))
def slices_Index_string_string_L1 (F : Nat) (s_1 : List (List Int)) (a_1 : List Int) : Nat → Int → Option (Unit ⊕ Int)
  | 0, _ => none
  | n + 1, v_1 => slices_Index_string_string_L1_body F s_1 a_1 (slices_Index_string_string_L1 F s_1 a_1 n) v_1
def slices_Index_string_string (F : Nat) (s_1 : List (List Int)) (a_1 : List Int) : Option Int :=
  (slices_Index_string_string_L1 F s_1 a_1 F (0 : Int)).bind fun (o_1 : Unit ⊕ Int) =>
  (match o_1 with
  | (.inl q_1) =>
  some (-1 : Int)
  | (.inr q_2) =>
  some q_2)
def slices_Clone_string_string (s_1 : List (List Int)) : Option (List (List Int)) :=
  (need (((([] : List (List Int))).length + (s_1).length) * 16 ≤ 140737488355328)).bind fun _ =>
  some ([] ++ s_1)
def intern_Put (F : Nat) (names_1 : List (List Int)) (s_1 : List Int) : Option (Int × (List (List Int)) × Int) :=
  (intern_Name F s_1).bind fun r_1 =>
  (bif (r_1 != (0 : Int)) then some ((0 : Int), names_1, r_1) else
  (slices_Index_string_string F names_1 s_1).bind fun r_2 =>
  (bif decide (r_2 ≥ (0 : Int)) then some (r_2, names_1, (0 : Int)) else
  (bif decide ((((names_1).length : Nat) : Int) ≥ (1000 : Int)) then some ((0 : Int), names_1, (6 : Int)) else
  (slices_Clone_string_string names_1).bind fun r_3 => (need (((r_3).length + (([s_1] : List (List Int))).length) * 16 ≤ 140737488355328)).bind fun _ =>
  some ((((names_1).length : Nat) : Int), (r_3 ++ ([s_1] : List (List Int))), (0 : Int)))))
def slices_Clone_2_int_2_int (s_1 : List (Arr2_Int)) : Option (List (Arr2_Int)) :=
  (need (((([] : List Arr2_Int)).length + (s_1).length) * 16 ≤ 140737488355328)).bind fun _ =>
  some ([] ++ s_1)
def slices_Index_2_int_2_int_L1_body (F : Nat) (s_1 : List (Arr2_Int)) (a_1 : Arr2_Int) (rec : Int → Option (Unit ⊕ Int)) (v_1 : Int) : Option (Unit ⊕ Int) :=
  (bif decide (v_1 < (((s_1).length : Nat) : Int)) then (idxL s_1 v_1).bind fun x_1 =>
  (bif (decide (a_1 = x_1)) then some (.inr v_1) else
  rec (w_i64 (v_1 + (1 : Int)))) else
  some (.inl ()))
def slices_Index_2_int_2_int_L1 (F : Nat) (s_1 : List (Arr2_Int)) (a_1 : Arr2_Int) : Nat → Int → Option (Unit ⊕ Int)
  | 0, _ => none
  | n + 1, v_1 => slices_Index_2_int_2_int_L1_body F s_1 a_1 (slices_Index_2_int_2_int_L1 F s_1 a_1 n) v_1
def slices_Index_2_int_2_int (F : Nat) (s_1 : List (Arr2_Int)) (a_1 : Arr2_Int) : Option Int :=
  (slices_Index_2_int_2_int_L1 F s_1 a_1 F (0 : Int)).bind fun (o_1 : Unit ⊕ Int) =>
  (match o_1 with
  | (.inl q_1) =>
  some (-1 : Int)
  | (.inr q_2) =>
  some q_2)
def intern_PutStack_L1_body (F : Nat) (names_1 : List (List Int)) (stacks_1 : List (Arr2_Int)) (l_1 : List (List Int)) (rec : Int → (List (List Int)) → Int → (List Arr2_Int) → Option ((Int × (List (List Int)) × (List Arr2_Int)) ⊕ (Int × (List (List Int)) × (List (Arr2_Int)) × Int))) (at__1 : Int) (n_1 : List (List Int)) (v_1 : Int) (row_1 : List Arr2_Int) : Option ((Int × (List (List Int)) × (List Arr2_Int)) ⊕ (Int × (List (List Int)) × (List (Arr2_Int)) × Int)) :=
  (bif decide (v_1 < (((l_1).length : Nat) : Int)) then (idxL l_1 v_1).bind fun x_1 =>
  (intern_Put F n_1 x_1).bind fun r_3 =>
  (bif (r_3.2.2 != (0 : Int)) then some (.inr ((0 : Int), names_1, stacks_1, r_3.2.2)) else
  (slices_Index_2_int_2_int F row_1 (⟨at__1, r_3.1⟩ : Arr2_Int)).bind fun r_4 =>
  (bif decide (r_4 ≥ (0 : Int)) then rec r_4 r_3.2.1 (w_i64 (v_1 + (1 : Int))) row_1 else
  (bif decide ((((row_1).length : Nat) : Int) ≥ (1000 : Int)) then some (.inr ((0 : Int), names_1, stacks_1, (6 : Int))) else
  (need (((row_1).length + (([(⟨at__1, r_3.1⟩ : Arr2_Int)] : List Arr2_Int)).length) * 16 ≤ 140737488355328)).bind fun _ =>
  rec (((row_1).length : Nat) : Int) r_3.2.1 (w_i64 (v_1 + (1 : Int))) (row_1 ++ ([(⟨at__1, r_3.1⟩ : Arr2_Int)] : List Arr2_Int))))) else
  some (.inl (at__1, n_1, row_1)))
def intern_PutStack_L1 (F : Nat) (names_1 : List (List Int)) (stacks_1 : List (Arr2_Int)) (l_1 : List (List Int)) : Nat → Int → (List (List Int)) → Int → (List Arr2_Int) → Option ((Int × (List (List Int)) × (List Arr2_Int)) ⊕ (Int × (List (List Int)) × (List (Arr2_Int)) × Int))
  | 0, _, _, _, _ => none
  | n + 1, at__1, n_1, v_1, row_1 => intern_PutStack_L1_body F names_1 stacks_1 l_1 (intern_PutStack_L1 F names_1 stacks_1 l_1 n) at__1 n_1 v_1 row_1
def intern_PutStack (F : Nat) (names_1 : List (List Int)) (stacks_1 : List (Arr2_Int)) (l_1 : List (List Int)) : Option (Int × (List (List Int)) × (List (Arr2_Int)) × Int) :=
  (intern_Frames F l_1).bind fun r_1 =>
  (bif (r_1 != (0 : Int)) then some ((0 : Int), names_1, stacks_1, r_1) else
  (slices_Clone_2_int_2_int stacks_1).bind fun r_2 =>
  (intern_PutStack_L1 F names_1 stacks_1 l_1 F (-1 : Int) names_1 (0 : Int) r_2).bind fun (o_1 : (Int × (List (List Int)) × (List Arr2_Int)) ⊕ (Int × (List (List Int)) × (List (Arr2_Int)) × Int)) =>
  (match o_1 with
  | (.inl q_1) =>
  some (q_1.1, q_1.2.1, q_1.2.2, (0 : Int))
  | (.inr q_2) =>
  some q_2))
def record_Encode (F : Nat) (names_1 : List (List Int)) (stacks_1 : List (Arr2_Int)) (e_1 : T_api_Event) : Option ((List (Int)) × (List (List Int)) × (List (Arr2_Int)) × Int) :=
  (intern_Check F names_1 stacks_1).bind fun r_1 =>
  (bif (r_1 != (0 : Int)) then some ([], [], [], (1 : Int)) else
  (event_Check F e_1).bind fun r_2 =>
  (bif (r_2 != (0 : Int)) then some ([], [], [], r_2) else
  (record_uses e_1.Kind).bind fun r_3 =>
  (codec_PutInt F [] e_1.Kind).bind fun r_4 => (codec_PutInt F r_4 e_1.At).bind fun r_5 =>
  (((bif r_3.1 then (intern_Put F names_1 e_1.Name).bind fun r_6 =>
  (bif (r_6.2.2 != (0 : Int)) then some (.inr ([], [], [], r_6.2.2)) else
  (codec_PutInt F r_5 r_6.1).bind fun r_7 =>
  some (.inl (r_6.2.1, r_7))) else
  some (.inl (names_1, r_5))) : Option (((List (List Int)) × (List Int)) ⊕ ((List (Int)) × (List (List Int)) × (List (Arr2_Int)) × Int)))).bind fun (o_1 : ((List (List Int)) × (List Int)) ⊕ ((List (Int)) × (List (List Int)) × (List (Arr2_Int)) × Int)) =>
  (match o_1 with
  | (.inl q_1) =>
  (((bif r_3.2.1 then (codec_PutInt F q_1.2 e_1.N).bind fun r_8 =>
  some r_8 else
  some q_1.2) : Option (List Int))).bind fun (o_2 : (List Int)) =>
  (((bif r_3.2.2.1 then (codec_PutInt F o_2 e_1.M).bind fun r_9 =>
  some r_9 else
  some o_2) : Option (List Int))).bind fun (o_3 : (List Int)) =>
  (((bif r_3.2.2.2 then (intern_PutStack F q_1.1 stacks_1 e_1.Stack).bind fun r_10 =>
  (bif (r_10.2.2.2 != (0 : Int)) then some (.inr ([], [], [], r_10.2.2.2)) else
  (codec_PutInt F o_3 r_10.1).bind fun r_11 =>
  some (.inl (r_10.2.1, r_10.2.2.1, r_11))) else
  some (.inl (q_1.1, stacks_1, o_3))) : Option (((List (List Int)) × (List Arr2_Int) × (List Int)) ⊕ ((List (Int)) × (List (List Int)) × (List (Arr2_Int)) × Int)))).bind fun (o_4 : ((List (List Int)) × (List Arr2_Int) × (List Int)) ⊕ ((List (Int)) × (List (List Int)) × (List (Arr2_Int)) × Int)) =>
  (match o_4 with
  | (.inl q_3) =>
  some (q_3.2.2, q_3.1, q_3.2.1, (0 : Int))
  | (.inr q_4) =>
  some q_4)
  | (.inr q_2) =>
  some q_2)))
def codec_PutText (F : Nat) (b_1 : List (Int)) (s_1 : List Int) : Option (List (Int)) :=
  (codec_PutInt F b_1 (((s_1).length : Nat) : Int)).bind fun r_1 =>
  (need ((0 : Int) ≤ (w_i64 ((((r_1).length : Nat) : Int) + (((s_1).length : Nat) : Int))) ∧ ((w_i64 ((((r_1).length : Nat) : Int) + (((s_1).length : Nat) : Int))).toNat) * 1 ≤ 281474976710656)).bind fun _ =>
  (need (0 ≤ ((w_i64 ((((r_1).length : Nat) : Int) + (((s_1).length : Nat) : Int))).toNat) ∧ ((w_i64 ((((r_1).length : Nat) : Int) + (((s_1).length : Nat) : Int))).toNat) ≤ ((List.replicate ((w_i64 ((((r_1).length : Nat) : Int) + (((s_1).length : Nat) : Int))).toNat) (0 : Int))).length)).bind fun _ =>
  (need ((((r_1).length : Nat) : Int) ≤ (((w_i64 ((((r_1).length : Nat) : Int) + (((s_1).length : Nat) : Int))).toNat : Nat) : Int))).bind fun _ => (need (((r_1).length) ≤ ((w_i64 ((((r_1).length : Nat) : Int) + (((s_1).length : Nat) : Int))).toNat) ∧ ((w_i64 ((((r_1).length : Nat) : Int) + (((s_1).length : Nat) : Int))).toNat) ≤ ((cpy (List.replicate ((w_i64 ((((r_1).length : Nat) : Int) + (((s_1).length : Nat) : Int))).toNat) (0 : Int)) 0 ((w_i64 ((((r_1).length : Nat) : Int) + (((s_1).length : Nat) : Int))).toNat) r_1)).length)).bind fun _ =>
  some (cpy (cpy (List.replicate ((w_i64 ((((r_1).length : Nat) : Int) + (((s_1).length : Nat) : Int))).toNat) (0 : Int)) 0 ((w_i64 ((((r_1).length : Nat) : Int) + (((s_1).length : Nat) : Int))).toNat) r_1) ((r_1).length) ((w_i64 ((((r_1).length : Nat) : Int) + (((s_1).length : Nat) : Int))).toNat) s_1)
def packet_puts_v2_L1_body (F : Nat) (l_1 : List (Int)) (rec : Int → (List Int) → Option (List Int)) (v_1 : Int) (row_1 : List Int) : Option (List Int) :=
  (bif decide (v_1 < (((l_1).length : Nat) : Int)) then (idxL l_1 v_1).bind fun x_1 =>
  (codec_PutInt F row_1 x_1).bind fun r_1 =>
  rec (w_i64 (v_1 + (1 : Int))) r_1 else
  some row_1)
def packet_puts_v2_L1 (F : Nat) (l_1 : List (Int)) : Nat → Int → (List Int) → Option (List Int)
  | 0, _, _ => none
  | n + 1, v_1, row_1 => packet_puts_v2_L1_body F l_1 (packet_puts_v2_L1 F l_1 n) v_1 row_1
def packet_puts_v2 (F : Nat) (l_1 : List (Int)) : Option (List (Int)) :=
  (packet_puts_v2_L1 F l_1 F (0 : Int) []).bind fun (o_1 : (List Int)) =>
  some o_1
def packet_puts_v3_L1_body (F : Nat) (l_1 : List (Int)) (rec : Int → (List Int) → Option (List Int)) (v_1 : Int) (row_1 : List Int) : Option (List Int) :=
  (bif decide (v_1 < (((l_1).length : Nat) : Int)) then (idxL l_1 v_1).bind fun x_1 =>
  (codec_PutInt F row_1 x_1).bind fun r_1 =>
  rec (w_i64 (v_1 + (1 : Int))) r_1 else
  some row_1)
def packet_puts_v3_L1 (F : Nat) (l_1 : List (Int)) : Nat → Int → (List Int) → Option (List Int)
  | 0, _, _ => none
  | n + 1, v_1, row_1 => packet_puts_v3_L1_body F l_1 (packet_puts_v3_L1 F l_1 n) v_1 row_1
def packet_puts_v3 (F : Nat) (b_1 : List (Int)) (l_1 : List (Int)) : Option (List (Int)) :=
  (packet_puts_v3_L1 F l_1 F (0 : Int) b_1).bind fun (o_1 : (List Int)) =>
  some o_1
def packet_Encode_L1_body (F : Nat) (p_1 : T_api_Packet) (rec : (List (List Int)) → (List Arr2_Int) → Int → (List Int) → Option (((List (List Int)) × (List Arr2_Int) × (List Int)) ⊕ ((List (Int)) × Int))) (names_1 : List (List Int)) (stacks_1 : List Arr2_Int) (v_1 : Int) (row_1 : List Int) : Option (((List (List Int)) × (List Arr2_Int) × (List Int)) ⊕ ((List (Int)) × Int)) :=
  (bif decide (v_1 < (((p_1.Events).length : Nat) : Int)) then (idxL p_1.Events v_1).bind fun x_1 =>
  (record_Encode F names_1 stacks_1 x_1).bind fun r_2 =>
  (bif (r_2.2.2.2 != (0 : Int)) then some (.inr ([], r_2.2.2.2)) else
  (need (((row_1).length + (r_2.1).length) * 1 ≤ 140737488355328)).bind fun _ =>
  rec r_2.2.1 r_2.2.2.1 (w_i64 (v_1 + (1 : Int))) (row_1 ++ r_2.1)) else
  some (.inl (names_1, stacks_1, row_1)))
def packet_Encode_L1 (F : Nat) (p_1 : T_api_Packet) : Nat → (List (List Int)) → (List Arr2_Int) → Int → (List Int) → Option (((List (List Int)) × (List Arr2_Int) × (List Int)) ⊕ ((List (Int)) × Int))
  | 0, _, _, _, _ => none
  | n + 1, names_1, stacks_1, v_1, row_1 => packet_Encode_L1_body F p_1 (packet_Encode_L1 F p_1 n) names_1 stacks_1 v_1 row_1
def packet_Encode_L2_body (F : Nat) (q_1 : (List (List Int)) × (List Arr2_Int) × (List Int)) (rec : Int → (List Int) → Option (List Int)) (v_2 : Int) (row_2 : List Int) : Option (List Int) :=
  (bif decide (v_2 < (((q_1.1).length : Nat) : Int)) then (idxL q_1.1 v_2).bind fun x_2 =>
  (codec_PutText F row_2 x_2).bind fun r_4 =>
  rec (w_i64 (v_2 + (1 : Int))) r_4 else
  some row_2)
def packet_Encode_L2 (F : Nat) (q_1 : (List (List Int)) × (List Arr2_Int) × (List Int)) : Nat → Int → (List Int) → Option (List Int)
  | 0, _, _ => none
  | n + 1, v_2, row_2 => packet_Encode_L2_body F q_1 (packet_Encode_L2 F q_1 n) v_2 row_2
def packet_Encode_L3_body (F : Nat) (q_1 : (List (List Int)) × (List Arr2_Int) × (List Int)) (rec : Int → (List Int) → Option (List Int)) (v_3 : Int) (row_3 : List Int) : Option (List Int) :=
  (bif decide (v_3 < (((q_1.2.1).length : Nat) : Int)) then (idxL q_1.2.1 v_3).bind fun x_3 =>
  (packet_puts_v3 F row_3 ([x_3.c0, x_3.c1] : List Int)).bind fun r_6 =>
  rec (w_i64 (v_3 + (1 : Int))) r_6 else
  some row_3)
def packet_Encode_L3 (F : Nat) (q_1 : (List (List Int)) × (List Arr2_Int) × (List Int)) : Nat → Int → (List Int) → Option (List Int)
  | 0, _, _ => none
  | n + 1, v_3, row_3 => packet_Encode_L3_body F q_1 (packet_Encode_L3 F q_1 n) v_3 row_3
def packet_Encode (F : Nat) (p_1 : T_api_Packet) : Option ((List (Int)) × Int) :=
  (packet_Check F p_1).bind fun r_1 =>
  (bif (r_1 != (0 : Int)) then some ([], r_1) else
  (packet_Encode_L1 F p_1 F [] [] (0 : Int) []).bind fun (o_1 : ((List (List Int)) × (List Arr2_Int) × (List Int)) ⊕ ((List (Int)) × Int)) =>
  (match o_1 with
  | (.inl q_1) =>
  (packet_puts_v2 F ([p_1.Thread, p_1.Serial, p_1.Lost, (((q_1.1).length : Nat) : Int)] : List Int)).bind fun r_3 =>
  (packet_Encode_L2 F q_1 F (0 : Int) r_3).bind fun (o_2 : (List Int)) =>
  (packet_puts_v3 F o_2 ([(((q_1.2.1).length : Nat) : Int)] : List Int)).bind fun r_5 =>
  (packet_Encode_L3 F q_1 F (0 : Int) r_5).bind fun (o_3 : (List Int)) =>
  (packet_puts_v3 F o_3 ([(((p_1.Events).length : Nat) : Int)] : List Int)).bind fun r_7 => (need (((r_7).length + (q_1.2.2).length) * 1 ≤ 140737488355328)).bind fun _ =>
  some ((r_7 ++ q_1.2.2), (0 : Int))
  | (.inr q_2) =>
  some q_2))
structure T_packet_input where
  b : List (Int)
  used : Int
  fault : Int
  deriving DecidableEq, Inhabited
def v_T_packet_input (s : T_packet_input) : List AV := [.sl false 1 (List.map (AV.int .u8) s.b), .int .i64 s.used, .int .i64 s.fault]
def codec_integer (u_1 : Int) : Option Int :=
  some (ixor .i64 (w_i64 (ishr .u64 u_1 (1 : Int))) (w_i64 (0 - (w_i64 (iand .u64 u_1 (1 : Int))))))
def codec_Int_L1_body (F : Nat) (b_1 : List (Int)) (rec : Int → Int → Option (Unit ⊕ (Int × Int × Int))) (u_1 : Int) (v_1 : Int) : Option (Unit ⊕ (Int × Int × Int)) :=
  (bif decide (v_1 < (((b_1).length : Nat) : Int)) then (idxL b_1 v_1).bind fun x_1 =>
  (bif ((v_1 == (9 : Int)) && decide (x_1 > (1 : Int))) then some (.inr ((0 : Int), (0 : Int), (10 : Int))) else
  (need ((0 : Int) ≤ (w_i64 ((7 : Int) * v_1)))).bind fun _ =>
  (bif decide (x_1 ≥ (128 : Int)) then rec (ior .u64 u_1 (ishl .u64 (w_u64 (iand .u8 x_1 (127 : Int))) (w_i64 ((7 : Int) * v_1)))) (w_i64 (v_1 + (1 : Int))) else
  (bif ((x_1 == (0 : Int)) && decide (v_1 > (0 : Int))) then some (.inr ((0 : Int), (0 : Int), (10 : Int))) else
  (codec_integer (ior .u64 u_1 (ishl .u64 (w_u64 (iand .u8 x_1 (127 : Int))) (w_i64 ((7 : Int) * v_1))))).bind fun r_1 =>
  some (.inr (r_1, w_i64 (v_1 + (1 : Int)), (0 : Int)))))) else
  some (.inl ()))
def codec_Int_L1 (F : Nat) (b_1 : List (Int)) : Nat → Int → Int → Option (Unit ⊕ (Int × Int × Int))
  | 0, _, _ => none
  | n + 1, u_1, v_1 => codec_Int_L1_body F b_1 (codec_Int_L1 F b_1 n) u_1 v_1
def codec_Int (F : Nat) (b_1 : List (Int)) : Option (Int × Int × Int) :=
  (codec_Int_L1 F b_1 F (0 : Int) (0 : Int)).bind fun (o_1 : Unit ⊕ (Int × Int × Int)) =>
  (match o_1 with
  | (.inl q_1) =>
  some ((0 : Int), (0 : Int), (8 : Int))
  | (.inr q_2) =>
  some q_2)
def packet_input_num (F : Nat) (x_1 : T_packet_input) : Option (Int × T_packet_input) :=
  (bif (x_1.fault != (0 : Int)) then some ((0 : Int), x_1) else
  (need ((0 : Int) ≤ x_1.used ∧ x_1.used ≤ (((x_1.b).length : Nat) : Int))).bind fun _ => (codec_Int F (sub x_1.b x_1.used (((x_1.b).length : Nat) : Int))).bind fun r_1 =>
  some (r_1.1, (⟨x_1.b, w_i64 (x_1.used + r_1.2.1), r_1.2.2⟩ : T_packet_input)))
def packet_input_count (F : Nat) (x_1 : T_packet_input) (most_1 : Int) : Option (Int × T_packet_input) :=
  (packet_input_num F x_1).bind fun r_1 =>
  (bif (r_1.2.fault != (0 : Int)) then some ((0 : Int), r_1.2) else
  (bif decide (r_1.1 < (0 : Int)) then some ((0 : Int), (⟨r_1.2.b, r_1.2.used, (10 : Int)⟩ : T_packet_input)) else
  (bif decide (r_1.1 > most_1) then some ((0 : Int), (⟨r_1.2.b, r_1.2.used, (7 : Int)⟩ : T_packet_input)) else
  some (r_1.1, r_1.2))))
def codec_Text (F : Nat) (b_1 : List (Int)) (most_1 : Int) : Option ((List Int) × Int × Int) :=
  (codec_Int F b_1).bind fun r_1 =>
  (bif (r_1.2.2 != (0 : Int)) then some (([] : List Int), (0 : Int), r_1.2.2) else
  (bif decide (r_1.1 < (0 : Int)) then some (([] : List Int), (0 : Int), (10 : Int)) else
  (bif decide (r_1.1 > most_1) then some (([] : List Int), (0 : Int), (7 : Int)) else
  (bif decide (r_1.1 > (w_i64 ((((b_1).length : Nat) : Int) - r_1.2.1))) then some (([] : List Int), (0 : Int), (8 : Int)) else
  (need ((0 : Int) ≤ r_1.2.1 ∧ r_1.2.1 ≤ (w_i64 (r_1.2.1 + r_1.1)) ∧ (w_i64 (r_1.2.1 + r_1.1)) ≤ (((b_1).length : Nat) : Int))).bind fun _ =>
  some (sub b_1 r_1.2.1 (w_i64 (r_1.2.1 + r_1.1)), w_i64 (r_1.2.1 + r_1.1), (0 : Int))))))
def packet_input_text (F : Nat) (x_1 : T_packet_input) : Option ((List Int) × T_packet_input) :=
  (bif (x_1.fault != (0 : Int)) then some (([] : List Int), x_1) else
  (need ((0 : Int) ≤ x_1.used ∧ x_1.used ≤ (((x_1.b).length : Nat) : Int))).bind fun _ => (codec_Text F (sub x_1.b x_1.used (((x_1.b).length : Nat) : Int)) (40 : Int)).bind fun r_1 =>
  some (r_1.1, (⟨x_1.b, w_i64 (x_1.used + r_1.2.1), r_1.2.2⟩ : T_packet_input)))
structure T_record_input where
  b : List (Int)
  used : Int
  fault : Int
  deriving DecidableEq, Inhabited
def v_T_record_input (s : T_record_input) : List AV := [.sl false 1 (List.map (AV.int .u8) s.b), .int .i64 s.used, .int .i64 s.fault]
def record_input_num (F : Nat) (x_1 : T_record_input) : Option (Int × T_record_input) :=
  (bif (x_1.fault != (0 : Int)) then some ((0 : Int), x_1) else
  (need ((0 : Int) ≤ x_1.used ∧ x_1.used ≤ (((x_1.b).length : Nat) : Int))).bind fun _ => (codec_Int F (sub x_1.b x_1.used (((x_1.b).length : Nat) : Int))).bind fun r_1 =>
  some (r_1.1, (⟨x_1.b, w_i64 (x_1.used + r_1.2.1), r_1.2.2⟩ : T_record_input)))
def slices_Reverse_string_string_L1_body (F : Nat) (rec : Int → Int → (List (List Int)) → Option (List (List Int))) (i_1 : Int) (j_1 : Int) (row_1 : List (List Int)) : Option (List (List Int)) :=
  (bif decide (i_1 < j_1) then (idxL row_1 j_1).bind fun x_1 => (idxL row_1 i_1).bind fun x_2 => (idxL row_1 i_1).bind fun x_3 => (idxL ((row_1).set ((i_1).toNat) x_1) j_1).bind fun x_4 =>
  rec (w_i64 (i_1 + (1 : Int))) (w_i64 (j_1 - (1 : Int))) (((row_1).set ((i_1).toNat) x_1).set ((j_1).toNat) x_2) else
  some row_1)
def slices_Reverse_string_string_L1 (F : Nat) : Nat → Int → Int → (List (List Int)) → Option (List (List Int))
  | 0, _, _, _ => none
  | n + 1, i_1, j_1, row_1 => slices_Reverse_string_string_L1_body F (slices_Reverse_string_string_L1 F n) i_1 j_1 row_1
def slices_Reverse_string_string (F : Nat) (s_1 : List (List Int)) : Option (List (List Int)) :=
  (slices_Reverse_string_string_L1 F F (0 : Int) (w_i64 ((((s_1).length : Nat) : Int) - (1 : Int))) s_1).bind fun (o_1 : (List (List Int))) =>
  some o_1
def intern_Stack_L1_body (F : Nat) (names_1 : List (List Int)) (stacks_1 : List (Arr2_Int)) (rec : Int → (List (List Int)) → Option (List (List Int))) (i_2 : Int) (row_1 : List (List Int)) : Option (List (List Int)) :=
  (bif (i_2 != (-1 : Int)) then (idxL stacks_1 i_2).bind fun x_1 => (idxL names_1 x_1.c1).bind fun x_2 => (need (((row_1).length + (([x_2] : List (List Int))).length) * 16 ≤ 140737488355328)).bind fun _ =>
  (idxL stacks_1 i_2).bind fun x_3 =>
  rec x_3.c0 (row_1 ++ ([x_2] : List (List Int))) else
  some row_1)
def intern_Stack_L1 (F : Nat) (names_1 : List (List Int)) (stacks_1 : List (Arr2_Int)) : Nat → Int → (List (List Int)) → Option (List (List Int))
  | 0, _, _ => none
  | n + 1, i_2, row_1 => intern_Stack_L1_body F names_1 stacks_1 (intern_Stack_L1 F names_1 stacks_1 n) i_2 row_1
def intern_Stack (F : Nat) (names_1 : List (List Int)) (stacks_1 : List (Arr2_Int)) (i_1 : Int) : Option ((List (List Int)) × Int) :=
  (intern_Check F names_1 stacks_1).bind fun r_1 =>
  (bif (r_1 != (0 : Int)) then some ([], (1 : Int)) else
  (bif (decide (i_1 < (-1 : Int)) || decide (i_1 ≥ (((stacks_1).length : Nat) : Int))) then some ([], (2 : Int)) else
  (intern_Stack_L1 F names_1 stacks_1 F i_1 []).bind fun (o_1 : (List (List Int))) =>
  (slices_Reverse_string_string F o_1).bind fun r_2 => (need ((r_2).length = (o_1).length)).bind fun _ =>
  some (r_2, (0 : Int))))
def record_Decode (F : Nat) (names_1 : List (List Int)) (stacks_1 : List (Arr2_Int)) (b_1 : List (Int)) : Option (T_api_Event × Int × Int) :=
  (intern_Check F names_1 stacks_1).bind fun r_1 =>
  (bif (r_1 != (0 : Int)) then some ((⟨(0 : Int), (0 : Int), ([] : List Int), (0 : Int), (0 : Int), []⟩ : T_api_Event), (0 : Int), (1 : Int)) else
  (record_input_num F (⟨b_1, (0 : Int), (0 : Int)⟩ : T_record_input)).bind fun r_2 =>
  (record_input_num F r_2.2).bind fun r_3 =>
  (((bif ((r_3.2.fault == (0 : Int)) && (decide (r_2.1 < (1 : Int)) || decide (r_2.1 > (12 : Int)))) then some (10 : Int) else
  some r_3.2.fault) : Option Int)).bind fun (o_1 : Int) =>
  (record_uses r_2.1).bind fun r_4 =>
  (((bif r_4.1 then (record_input_num F (⟨r_3.2.b, r_3.2.used, o_1⟩ : T_record_input)).bind fun r_5 =>
  some (r_5.1, r_5.2.b, r_5.2.used, r_5.2.fault) else
  some ((0 : Int), r_3.2.b, r_3.2.used, o_1)) : Option (Int × (List Int) × Int × Int))).bind fun (o_2 : (Int × (List Int) × Int × Int)) =>
  (((bif r_4.2.1 then (record_input_num F (⟨o_2.2.1, o_2.2.2.1, o_2.2.2.2⟩ : T_record_input)).bind fun r_6 =>
  some (r_6.2.b, r_6.2.used, r_6.2.fault, r_6.1) else
  some (o_2.2.1, o_2.2.2.1, o_2.2.2.2, (0 : Int))) : Option ((List Int) × Int × Int × Int))).bind fun (o_3 : ((List Int) × Int × Int × Int)) =>
  (((bif r_4.2.2.1 then (record_input_num F (⟨o_3.1, o_3.2.1, o_3.2.2.1⟩ : T_record_input)).bind fun r_7 =>
  some (r_7.2.b, r_7.2.used, r_7.2.fault, r_7.1) else
  some (o_3.1, o_3.2.1, o_3.2.2.1, (0 : Int))) : Option ((List Int) × Int × Int × Int))).bind fun (o_4 : ((List Int) × Int × Int × Int)) =>
  (((bif r_4.2.2.2 then (record_input_num F (⟨o_4.1, o_4.2.1, o_4.2.2.1⟩ : T_record_input)).bind fun r_8 =>
  some (r_8.1, r_8.2.b, r_8.2.used, r_8.2.fault) else
  some ((-1 : Int), o_4.1, o_4.2.1, o_4.2.2.1)) : Option (Int × (List Int) × Int × Int))).bind fun (o_5 : (Int × (List Int) × Int × Int)) =>
  (((bif (o_5.2.2.2 != (0 : Int)) then some (.inr ((⟨(0 : Int), (0 : Int), ([] : List Int), (0 : Int), (0 : Int), []⟩ : T_api_Event), (0 : Int), o_5.2.2.2)) else
  (bif (r_4.1 && (decide (o_2.1 < (0 : Int)) || decide (o_2.1 ≥ (((names_1).length : Nat) : Int)))) then some (.inr ((⟨(0 : Int), (0 : Int), ([] : List Int), (0 : Int), (0 : Int), []⟩ : T_api_Event), (0 : Int), (2 : Int))) else
  (bif (decide (o_5.1 < (-1 : Int)) || decide (o_5.1 ≥ (((stacks_1).length : Nat) : Int))) then some (.inr ((⟨(0 : Int), (0 : Int), ([] : List Int), (0 : Int), (0 : Int), []⟩ : T_api_Event), (0 : Int), (2 : Int))) else
  some (.inl ())))) : Option (Unit ⊕ (T_api_Event × Int × Int)))).bind fun (o_6 : Unit ⊕ (T_api_Event × Int × Int)) =>
  (match o_6 with
  | (.inl q_1) =>
  (((bif r_4.1 then (idxL names_1 o_2.1).bind fun x_1 =>
  some x_1 else
  some ([] : List Int)) : Option (List Int))).bind fun (o_7 : (List Int)) =>
  (intern_Stack F names_1 stacks_1 o_5.1).bind fun r_9 =>
  (event_Check F (⟨r_3.1, r_2.1, o_7, o_3.2.2.2, o_4.2.2.2, r_9.1⟩ : T_api_Event)).bind fun r_10 =>
  (bif (r_10 != (0 : Int)) then some ((⟨(0 : Int), (0 : Int), ([] : List Int), (0 : Int), (0 : Int), []⟩ : T_api_Event), (0 : Int), (10 : Int)) else
  some ((⟨r_3.1, r_2.1, o_7, o_3.2.2.2, o_4.2.2.2, r_9.1⟩ : T_api_Event), o_5.2.2.1, (0 : Int)))
  | (.inr q_2) =>
  some q_2))
def bytes_Equal (a_1 : List (Int)) (b_1 : List (Int)) : Option Bool :=
  some (a_1 == b_1)
def packet_Decode_L1_body (F : Nat) (rec : Int → (List Int) → Int → Int → (List (List Int)) → Option ((List Int) × Int × Int × (List (List Int)))) (n_1 : Int) (c_1 : List Int) (c_2 : Int) (c_3 : Int) (row_1 : List (List Int)) : Option ((List Int) × Int × Int × (List (List Int))) :=
  (bif (decide (n_1 > (0 : Int)) && (c_3 == (0 : Int))) then (packet_input_text F (⟨c_1, c_2, c_3⟩ : T_packet_input)).bind fun r_5 => (need (((row_1).length + (([r_5.1] : List (List Int))).length) * 16 ≤ 140737488355328)).bind fun _ =>
  rec (w_i64 (n_1 - (1 : Int))) r_5.2.b r_5.2.used r_5.2.fault (row_1 ++ ([r_5.1] : List (List Int))) else
  some (c_1, c_2, c_3, row_1))
def packet_Decode_L1 (F : Nat) : Nat → Int → (List Int) → Int → Int → (List (List Int)) → Option ((List Int) × Int × Int × (List (List Int)))
  | 0, _, _, _, _, _ => none
  | n + 1, n_1, c_1, c_2, c_3, row_1 => packet_Decode_L1_body F (packet_Decode_L1 F n) n_1 c_1 c_2 c_3 row_1
def packet_Decode_L2_body (F : Nat) (rec : Int → (List Int) → Int → Int → (List Arr2_Int) → Option ((List Int) × Int × Int × (List Arr2_Int))) (n_3 : Int) (c_4 : List Int) (c_5 : Int) (c_6 : Int) (row_2 : List Arr2_Int) : Option ((List Int) × Int × Int × (List Arr2_Int)) :=
  (bif (decide (n_3 > (0 : Int)) && (c_6 == (0 : Int))) then (packet_input_num F (⟨c_4, c_5, c_6⟩ : T_packet_input)).bind fun r_7 =>
  (packet_input_num F r_7.2).bind fun r_8 => (need (((row_2).length + (([(⟨r_7.1, r_8.1⟩ : Arr2_Int)] : List Arr2_Int)).length) * 16 ≤ 140737488355328)).bind fun _ =>
  rec (w_i64 (n_3 - (1 : Int))) r_8.2.b r_8.2.used r_8.2.fault (row_2 ++ ([(⟨r_7.1, r_8.1⟩ : Arr2_Int)] : List Arr2_Int)) else
  some (c_4, c_5, c_6, row_2))
def packet_Decode_L2 (F : Nat) : Nat → Int → (List Int) → Int → Int → (List Arr2_Int) → Option ((List Int) × Int × Int × (List Arr2_Int))
  | 0, _, _, _, _, _ => none
  | n + 1, n_3, c_4, c_5, c_6, row_2 => packet_Decode_L2_body F (packet_Decode_L2 F n) n_3 c_4 c_5 c_6 row_2
def packet_Decode_L3_body (F : Nat) (b_1 : List (Int)) (o_1 : ((List Int) × Int × Int × (List (List Int)))) (o_2 : ((List Int) × Int × Int × (List Arr2_Int))) (rec : Int → Int → Int → (List T_api_Event) → Option (Int × Int × (List T_api_Event))) (n_5 : Int) (c_7 : Int) (c_8 : Int) (row_3 : List T_api_Event) : Option (Int × Int × (List T_api_Event)) :=
  (bif (decide (n_5 > (0 : Int)) && (c_8 == (0 : Int))) then (need ((0 : Int) ≤ c_7 ∧ c_7 ≤ (((b_1).length : Nat) : Int))).bind fun _ => (record_Decode F o_1.2.2.2 o_2.2.2.2 (sub b_1 c_7 (((b_1).length : Nat) : Int))).bind fun r_11 =>
  (need (((row_3).length + (([r_11.1] : List T_api_Event)).length) * 72 ≤ 140737488355328)).bind fun _ =>
  rec (w_i64 (n_5 - (1 : Int))) (w_i64 (c_7 + r_11.2.1)) r_11.2.2 (row_3 ++ ([r_11.1] : List T_api_Event)) else
  some (c_7, c_8, row_3))
def packet_Decode_L3 (F : Nat) (b_1 : List (Int)) (o_1 : ((List Int) × Int × Int × (List (List Int)))) (o_2 : ((List Int) × Int × Int × (List Arr2_Int))) : Nat → Int → Int → Int → (List T_api_Event) → Option (Int × Int × (List T_api_Event))
  | 0, _, _, _, _ => none
  | n + 1, n_5, c_7, c_8, row_3 => packet_Decode_L3_body F b_1 o_1 o_2 (packet_Decode_L3 F b_1 o_1 o_2 n) n_5 c_7 c_8 row_3
def packet_Decode (F : Nat) (b_1 : List (Int)) : Option (T_api_Packet × Int × Int) :=
  (packet_input_num F (⟨b_1, (0 : Int), (0 : Int)⟩ : T_packet_input)).bind fun r_1 =>
  (packet_input_num F r_1.2).bind fun r_2 =>
  (packet_input_num F r_2.2).bind fun r_3 =>
  (packet_input_count F r_3.2 (1000 : Int)).bind fun r_4 =>
  (packet_Decode_L1 F F r_4.1 r_4.2.b r_4.2.used r_4.2.fault []).bind fun (o_1 : ((List Int) × Int × Int × (List (List Int)))) =>
  (packet_input_count F (⟨o_1.1, o_1.2.1, o_1.2.2.1⟩ : T_packet_input) (1000 : Int)).bind fun r_6 =>
  (packet_Decode_L2 F F r_6.1 r_6.2.b r_6.2.used r_6.2.fault []).bind fun (o_2 : ((List Int) × Int × Int × (List Arr2_Int))) =>
  (((bif (o_2.2.2.1 == (0 : Int)) then (intern_Check F o_1.2.2.2 o_2.2.2.2).bind fun r_9 =>
  some r_9 else
  some o_2.2.2.1) : Option Int)).bind fun (o_3 : Int) =>
  (packet_input_count F (⟨o_2.1, o_2.2.1, o_3⟩ : T_packet_input) (1000 : Int)).bind fun r_10 =>
  (packet_Decode_L3 F b_1 o_1 o_2 F r_10.1 r_10.2.used r_10.2.fault []).bind fun (o_4 : (Int × Int × (List T_api_Event))) =>
  (((bif (o_4.2.1 == (0 : Int)) then (packet_Check F (⟨r_1.1, r_2.1, r_3.1, o_4.2.2⟩ : T_api_Packet)).bind fun r_12 =>
  some r_12 else
  some o_4.2.1) : Option Int)).bind fun (o_5 : Int) =>
  (bif (o_5 != (0 : Int)) then some ((⟨(0 : Int), (0 : Int), (0 : Int), []⟩ : T_api_Packet), (0 : Int), o_5) else
  (packet_Encode F (⟨r_1.1, r_2.1, r_3.1, o_4.2.2⟩ : T_api_Packet)).bind fun r_13 =>
  (( bif (r_13.2 != (0 : Int)) then ( some true) else ((need ((0 : Int) ≤ o_4.1 ∧ o_4.1 ≤ (((b_1).length : Nat) : Int))).bind fun _ => (bytes_Equal r_13.1 (sub b_1 (0 : Int) o_4.1)).bind fun r_14 => some (!r_14)))).bind fun (p_1 : Bool) =>
  (bif p_1 then some ((⟨(0 : Int), (0 : Int), (0 : Int), []⟩ : T_api_Packet), (0 : Int), (10 : Int)) else
  some ((⟨r_1.1, r_2.1, r_3.1, o_4.2.2⟩ : T_api_Packet), o_4.1, (0 : Int))))
def slices_Grow_tracebook_api_Event_tracebook_api_Event (n_1 : Int) : Option (List (T_api_Event)) :=
  (((bif decide (n_1 < (0 : Int)) then none else
  some ()) : Option Unit)).bind fun (o_1 : Unit) =>
  (bif decide ((w_i64 (n_1 - (w_i64 ((0 : Int) - ((0 : Nat) : Int))))) > (0 : Int)) then (need ((0 : Int) ≤ (w_i64 (n_1 - (w_i64 ((0 : Int) - ((0 : Nat) : Int))))) ∧ 0 < ((w_i64 (n_1 - (w_i64 ((0 : Int) - ((0 : Nat) : Int))))).toNat) ∧ ((w_i64 (n_1 - (w_i64 ((0 : Int) - ((0 : Nat) : Int))))).toNat) * 72 ≤ 140737488355328)).bind fun _ =>
  some [] else
  some [])
def slices_Concat_tracebook_api_Event_tracebook_api_Event_L1_body (F : Nat) (slices_1 : List (List (T_api_Event))) (rec : Int → Int → Option Int) (size_1 : Int) (v_1 : Int) : Option Int :=
  (bif decide (v_1 < (((slices_1).length : Nat) : Int)) then (idxL slices_1 v_1).bind fun x_1 =>
  (bif decide ((w_i64 (size_1 + (((x_1).length : Nat) : Int))) < (0 : Int)) then none else
  rec (w_i64 (size_1 + (((x_1).length : Nat) : Int))) (w_i64 (v_1 + (1 : Int)))) else
  some size_1)
def slices_Concat_tracebook_api_Event_tracebook_api_Event_L1 (F : Nat) (slices_1 : List (List (T_api_Event))) : Nat → Int → Int → Option Int
  | 0, _, _ => none
  | n + 1, size_1, v_1 => slices_Concat_tracebook_api_Event_tracebook_api_Event_L1_body F slices_1 (slices_Concat_tracebook_api_Event_tracebook_api_Event_L1 F slices_1 n) size_1 v_1
def slices_Concat_tracebook_api_Event_tracebook_api_Event_L2_body (F : Nat) (slices_1 : List (List (T_api_Event))) (rec : Int → (List T_api_Event) → Option (List T_api_Event)) (v_2 : Int) (row_1 : List T_api_Event) : Option (List T_api_Event) :=
  (bif decide (v_2 < (((slices_1).length : Nat) : Int)) then (idxL slices_1 v_2).bind fun x_2 =>
  (need (((row_1).length + (x_2).length) * 72 ≤ 140737488355328)).bind fun _ =>
  rec (w_i64 (v_2 + (1 : Int))) (row_1 ++ x_2) else
  some row_1)
def slices_Concat_tracebook_api_Event_tracebook_api_Event_L2 (F : Nat) (slices_1 : List (List (T_api_Event))) : Nat → Int → (List T_api_Event) → Option (List T_api_Event)
  | 0, _, _ => none
  | n + 1, v_2, row_1 => slices_Concat_tracebook_api_Event_tracebook_api_Event_L2_body F slices_1 (slices_Concat_tracebook_api_Event_tracebook_api_Event_L2 F slices_1 n) v_2 row_1
def slices_Concat_tracebook_api_Event_tracebook_api_Event (F : Nat) (slices_1 : List (List (T_api_Event))) : Option (List (T_api_Event)) :=
  (slices_Concat_tracebook_api_Event_tracebook_api_Event_L1 F slices_1 F (0 : Int) (0 : Int)).bind fun (o_1 : Int) =>
  (slices_Grow_tracebook_api_Event_tracebook_api_Event o_1).bind fun r_1 =>
  (slices_Concat_tracebook_api_Event_tracebook_api_Event_L2 F slices_1 F (0 : Int) r_1).bind fun (o_2 : (List T_api_Event)) =>
  some o_2
def packet_Join (F : Nat) (a_1 : T_api_Packet) (b_1 : T_api_Packet) : Option (T_api_Packet × Bool) :=
  (((packet_Check F a_1).bind fun r_1 => bif (r_1 != (0 : Int)) then ( some true) else ((packet_Check F b_1).bind fun r_2 => bif (r_2 != (0 : Int)) then ( some true) else ( bif (a_1.Thread != b_1.Thread) then ( some true) else ( bif (b_1.Lost != (0 : Int)) then ( some true) else ( some (b_1.Serial != (w_i64 (a_1.Serial + (((a_1.Events).length : Nat) : Int)))))))))).bind fun (p_1 : Bool) =>
  (bif p_1 then some ((⟨(0 : Int), (0 : Int), (0 : Int), []⟩ : T_api_Packet), false) else
  (slices_Concat_tracebook_api_Event_tracebook_api_Event F ([a_1.Events, b_1.Events] : List (List (T_api_Event)))).bind fun r_3 =>
  (((idxL b_1.Events (0 : Int)).bind fun x_1 => (idxL a_1.Events (w_i64 ((((a_1.Events).length : Nat) : Int) - (1 : Int)))).bind fun x_2 => bif decide (x_1.At < x_2.At) then ( some true) else ( some (decide ((((r_3).length : Nat) : Int) > (1000 : Int)))))).bind fun (p_2 : Bool) =>
  (bif p_2 then some ((⟨(0 : Int), (0 : Int), (0 : Int), []⟩ : T_api_Packet), false) else
  some ((⟨a_1.Thread, a_1.Serial, a_1.Lost, r_3⟩ : T_api_Packet), true)))
def slices_Clone_tracebook_api_Event_tracebook_api_Event (s_1 : List (T_api_Event)) : Option (List (T_api_Event)) :=
  (need (((([] : List T_api_Event)).length + (s_1).length) * 72 ≤ 140737488355328)).bind fun _ =>
  some ([] ++ s_1)
def packet_Split (F : Nat) (p_1 : T_api_Packet) (n_1 : Int) : Option (T_api_Packet × T_api_Packet × Bool) :=
  (((packet_Check F p_1).bind fun r_1 => bif (r_1 != (0 : Int)) then ( some true) else ( bif decide (n_1 < (1 : Int)) then ( some true) else ( some (decide (n_1 ≥ (((p_1.Events).length : Nat) : Int))))))).bind fun (p_2 : Bool) =>
  (bif p_2 then some ((⟨(0 : Int), (0 : Int), (0 : Int), []⟩ : T_api_Packet), (⟨(0 : Int), (0 : Int), (0 : Int), []⟩ : T_api_Packet), false) else
  (need ((0 : Int) ≤ n_1 ∧ n_1 ≤ (((p_1.Events).length : Nat) : Int))).bind fun _ => (slices_Clone_tracebook_api_Event_tracebook_api_Event (sub p_1.Events n_1 (((p_1.Events).length : Nat) : Int))).bind fun r_2 =>
  (need ((0 : Int) ≤ n_1 ∧ n_1 ≤ (((p_1.Events).length : Nat) : Int))).bind fun _ => (slices_Clone_tracebook_api_Event_tracebook_api_Event (sub p_1.Events (0 : Int) n_1)).bind fun r_3 =>
  some ((⟨p_1.Thread, p_1.Serial, p_1.Lost, r_3⟩ : T_api_Packet), (⟨p_1.Thread, w_i64 (p_1.Serial + n_1), (0 : Int), r_2⟩ : T_api_Packet), true))
def R07_Texts_L1_body (F : Nat) (a_1 : List (List Int)) (b_1 : List (List Int)) (rec : Int → Option (Unit ⊕ Bool)) (i_1 : Int) : Option (Unit ⊕ Bool) :=
  (bif decide (i_1 < (((a_1).length : Nat) : Int)) then (idxL a_1 i_1).bind fun x_1 => (idxL b_1 i_1).bind fun x_2 =>
  (bif !(x_1 == x_2) then some (.inr false) else
  rec (w_i64 (i_1 + (1 : Int)))) else
  some (.inl ()))
def R07_Texts_L1 (F : Nat) (a_1 : List (List Int)) (b_1 : List (List Int)) : Nat → Int → Option (Unit ⊕ Bool)
  | 0, _ => none
  | n + 1, i_1 => R07_Texts_L1_body F a_1 b_1 (R07_Texts_L1 F a_1 b_1 n) i_1
def R07_Texts (F : Nat) (a_1 : List (List Int)) (b_1 : List (List Int)) : Option Bool :=
  (bif ((((a_1).length : Nat) : Int) != (((b_1).length : Nat) : Int)) then some false else
  (R07_Texts_L1 F a_1 b_1 F (0 : Int)).bind fun (o_1 : Unit ⊕ Bool) =>
  (match o_1 with
  | (.inl q_1) =>
  some true
  | (.inr q_2) =>
  some q_2))
def R07_Same (F : Nat) (a_1 : T_api_Event) (b_1 : T_api_Event) : Option Bool :=
  (( bif (a_1.At == b_1.At) then ( bif (a_1.Kind == b_1.Kind) then ( bif (a_1.Name == b_1.Name) then ( bif (a_1.N == b_1.N) then ( bif (a_1.M == b_1.M) then ((R07_Texts F a_1.Stack b_1.Stack).bind fun r_1 => some r_1) else ( some false)) else ( some false)) else ( some false)) else ( some false)) else ( some false))).bind fun (p_1 : Bool) =>
  some p_1
def R11_Same_L1_body (F : Nat) (a_1 : T_api_Packet) (b_1 : T_api_Packet) (rec : Int → Option (Unit ⊕ Bool)) (i_1 : Int) : Option (Unit ⊕ Bool) :=
  (bif decide (i_1 < (((a_1.Events).length : Nat) : Int)) then (idxL a_1.Events i_1).bind fun x_1 => (idxL b_1.Events i_1).bind fun x_2 => (R07_Same F x_1 x_2).bind fun r_1 =>
  (bif !r_1 then some (.inr false) else
  rec (w_i64 (i_1 + (1 : Int)))) else
  some (.inl ()))
def R11_Same_L1 (F : Nat) (a_1 : T_api_Packet) (b_1 : T_api_Packet) : Nat → Int → Option (Unit ⊕ Bool)
  | 0, _ => none
  | n + 1, i_1 => R11_Same_L1_body F a_1 b_1 (R11_Same_L1 F a_1 b_1 n) i_1
def R11_Same (F : Nat) (a_1 : T_api_Packet) (b_1 : T_api_Packet) : Option Bool :=
  (bif ((a_1.Thread != b_1.Thread) || ((a_1.Serial != b_1.Serial) || ((a_1.Lost != b_1.Lost) || ((((a_1.Events).length : Nat) : Int) != (((b_1.Events).length : Nat) : Int))))) then some false else
  (R11_Same_L1 F a_1 b_1 F (0 : Int)).bind fun (o_1 : Unit ⊕ Bool) =>
  (match o_1 with
  | (.inl q_1) =>
  some true
  | (.inr q_2) =>
  some q_2))
def slices_Equal_string_string_L1_body (F : Nat) (s1_1 : List (List Int)) (s2_1 : List (List Int)) (rec : Int → Option (Unit ⊕ Bool)) (v_1 : Int) : Option (Unit ⊕ Bool) :=
  (bif decide (v_1 < (((s1_1).length : Nat) : Int)) then (idxL s1_1 v_1).bind fun x_1 => (idxL s2_1 v_1).bind fun x_2 =>
  (bif !(x_1 == x_2) then some (.inr false) else
  rec (w_i64 (v_1 + (1 : Int)))) else
  some (.inl ()))
def slices_Equal_string_string_L1 (F : Nat) (s1_1 : List (List Int)) (s2_1 : List (List Int)) : Nat → Int → Option (Unit ⊕ Bool)
  | 0, _ => none
  | n + 1, v_1 => slices_Equal_string_string_L1_body F s1_1 s2_1 (slices_Equal_string_string_L1 F s1_1 s2_1 n) v_1
def slices_Equal_string_string (F : Nat) (s1_1 : List (List Int)) (s2_1 : List (List Int)) : Option Bool :=
  (bif ((((s1_1).length : Nat) : Int) != (((s2_1).length : Nat) : Int)) then some false else
  (slices_Equal_string_string_L1 F s1_1 s2_1 F (0 : Int)).bind fun (o_1 : Unit ⊕ Bool) =>
  (match o_1 with
  | (.inl q_1) =>
  some true
  | (.inr q_2) =>
  some q_2))
def event_Same (F : Nat) (a_1 : T_api_Event) (b_1 : T_api_Event) : Option Bool :=
  (( bif (a_1.At == b_1.At) then ( bif (a_1.Kind == b_1.Kind) then ( bif (a_1.Name == b_1.Name) then ( bif (a_1.N == b_1.N) then ( bif (a_1.M == b_1.M) then ((slices_Equal_string_string F a_1.Stack b_1.Stack).bind fun r_1 => some r_1) else ( some false)) else ( some false)) else ( some false)) else ( some false)) else ( some false))).bind fun (p_1 : Bool) =>
  some p_1
def slices_EqualFunc_tracebook_api_Event_tracebook_api_Event_tracebook_api_Event_tracebook_api_Event_L1_body (F : Nat) (s1_1 : List (T_api_Event)) (s2_1 : List (T_api_Event)) (rec : Int → Option (Unit ⊕ Bool)) (v_1 : Int) : Option (Unit ⊕ Bool) :=
  (bif decide (v_1 < (((s1_1).length : Nat) : Int)) then (idxL s1_1 v_1).bind fun x_1 =>
  (idxL s2_1 v_1).bind fun x_2 =>
  (event_Same F x_1 x_2).bind fun r_1 =>
  (bif !r_1 then some (.inr false) else
  rec (w_i64 (v_1 + (1 : Int)))) else
  some (.inl ()))
def slices_EqualFunc_tracebook_api_Event_tracebook_api_Event_tracebook_api_Event_tracebook_api_Event_L1 (F : Nat) (s1_1 : List (T_api_Event)) (s2_1 : List (T_api_Event)) : Nat → Int → Option (Unit ⊕ Bool)
  | 0, _ => none
  | n + 1, v_1 => slices_EqualFunc_tracebook_api_Event_tracebook_api_Event_tracebook_api_Event_tracebook_api_Event_L1_body F s1_1 s2_1 (slices_EqualFunc_tracebook_api_Event_tracebook_api_Event_tracebook_api_Event_tracebook_api_Event_L1 F s1_1 s2_1 n) v_1
def slices_EqualFunc_tracebook_api_Event_tracebook_api_Event_tracebook_api_Event_tracebook_api_Event (F : Nat) (s1_1 : List (T_api_Event)) (s2_1 : List (T_api_Event)) : Option Bool :=
  (bif ((((s1_1).length : Nat) : Int) != (((s2_1).length : Nat) : Int)) then some false else
  (slices_EqualFunc_tracebook_api_Event_tracebook_api_Event_tracebook_api_Event_tracebook_api_Event_L1 F s1_1 s2_1 F (0 : Int)).bind fun (o_1 : Unit ⊕ Bool) =>
  (match o_1 with
  | (.inl q_1) =>
  some true
  | (.inr q_2) =>
  some q_2))
def packet_Same (F : Nat) (a_1 : T_api_Packet) (b_1 : T_api_Packet) : Option Bool :=
  (( bif (a_1.Thread == b_1.Thread) then ( bif (a_1.Serial == b_1.Serial) then ( bif (a_1.Lost == b_1.Lost) then ((slices_EqualFunc_tracebook_api_Event_tracebook_api_Event_tracebook_api_Event_tracebook_api_Event F a_1.Events b_1.Events).bind fun r_1 => some r_1) else ( some false)) else ( some false)) else ( some false))).bind fun (p_1 : Bool) =>
  some p_1
def L11_lives (F : Nat) : Option Bool :=
  (packet_Encode F (⟨(7 : Int), (1 : Int), (1 : Int), ([(⟨(5 : Int), (3 : Int), ([97] : List Int), (0 : Int), (0 : Int), []⟩ : T_api_Event)] : List T_api_Event)⟩ : T_api_Packet)).bind fun r_1 =>
  (bif (!(r_1.1 == ([14, 2, 2, 2, 2, 97, 0, 2, 6, 10, 0] : List Int)) || (r_1.2 != (0 : Int))) then some false else
  (need (((r_1.1).length + (([(9 : Int)] : List Int)).length) * 1 ≤ 140737488355328)).bind fun _ => (packet_Decode F (r_1.1 ++ ([(9 : Int)] : List Int))).bind fun r_2 =>
  (packet_Join F (⟨(7 : Int), (1 : Int), (1 : Int), ([(⟨(5 : Int), (3 : Int), ([97] : List Int), (0 : Int), (0 : Int), []⟩ : T_api_Event)] : List T_api_Event)⟩ : T_api_Packet) (⟨(7 : Int), (2 : Int), (0 : Int), ([(⟨(5 : Int), (3 : Int), ([97] : List Int), (0 : Int), (0 : Int), []⟩ : T_api_Event)] : List T_api_Event)⟩ : T_api_Packet)).bind fun r_3 =>
  (packet_Split F r_3.1 (1 : Int)).bind fun r_4 =>
  (((R11_Same F r_2.1 (⟨(7 : Int), (1 : Int), (1 : Int), ([(⟨(5 : Int), (3 : Int), ([97] : List Int), (0 : Int), (0 : Int), []⟩ : T_api_Event)] : List T_api_Event)⟩ : T_api_Packet)).bind fun r_5 => bif r_5 then ( bif (r_2.2.1 == (11 : Int)) then ( bif (r_2.2.2 == (0 : Int)) then ( bif r_3.2 then ( bif ((((r_3.1.Events).length : Nat) : Int) == (2 : Int)) then ( bif r_4.2.2 then ((R11_Same F r_4.1 (⟨(7 : Int), (1 : Int), (1 : Int), ([(⟨(5 : Int), (3 : Int), ([97] : List Int), (0 : Int), (0 : Int), []⟩ : T_api_Event)] : List T_api_Event)⟩ : T_api_Packet)).bind fun r_6 => bif r_6 then ( bif (r_4.2.1.Serial == (2 : Int)) then ((packet_Same F (⟨(7 : Int), (1 : Int), (1 : Int), ([(⟨(5 : Int), (3 : Int), ([97] : List Int), (0 : Int), (0 : Int), []⟩ : T_api_Event)] : List T_api_Event)⟩ : T_api_Packet) r_2.1).bind fun r_7 => bif r_7 then ((packet_Check F (⟨(7 : Int), (1 : Int), (1 : Int), ([(⟨(5 : Int), (3 : Int), ([97] : List Int), (0 : Int), (0 : Int), []⟩ : T_api_Event)] : List T_api_Event)⟩ : T_api_Packet)).bind fun r_8 => some (r_8 == (0 : Int))) else ( some false)) else ( some false)) else ( some false)) else ( some false)) else ( some false)) else ( some false)) else ( some false)) else ( some false)) else ( some false))).bind fun (p_1 : Bool) =>
  some p_1)
def R11_number (n_1 : Int) : Option Bool :=
  some (decide (n_1 ≥ (0 : Int)) && decide (n_1 ≤ (1000000000000000 : Int)))
def R07_uses (k_1 : Int) : Option (Bool × Bool × Bool × Bool) :=
  some (((k_1 == (1 : Int)) || ((k_1 == (3 : Int)) || (k_1 == (4 : Int)))), decide (k_1 ≥ (4 : Int)), ((k_1 == (9 : Int)) || (k_1 == (11 : Int))), ((k_1 == (5 : Int)) || (k_1 == (11 : Int))))
def R06_letter_L1_body (F : Nat) (c_1 : Int) (rec : Int → Option (Unit ⊕ Bool)) (i_1 : Int) : Option (Unit ⊕ Bool) :=
  (bif decide (i_1 < (((([95, 46, 58, 47, 60, 62, 36, 42, 126, 45] : List Int)).length : Nat) : Int)) then (idxL ([95, 46, 58, 47, 60, 62, 36, 42, 126, 45] : List Int) i_1).bind fun c_2 =>
  (bif (c_2 == c_1) then some (.inr true) else
  rec (w_i64 (i_1 + (1 : Int)))) else
  some (.inl ()))
def R06_letter_L1 (F : Nat) (c_1 : Int) : Nat → Int → Option (Unit ⊕ Bool)
  | 0, _ => none
  | n + 1, i_1 => R06_letter_L1_body F c_1 (R06_letter_L1 F c_1 n) i_1
def R06_letter (F : Nat) (c_1 : Int) : Option Bool :=
  (bif (bif decide (c_1 ≥ (97 : Int)) then (decide (c_1 ≤ (122 : Int)) || (bif decide (c_1 ≥ (65 : Int)) then (decide (c_1 ≤ (90 : Int)) || (decide (c_1 ≥ (48 : Int)) && decide (c_1 ≤ (57 : Int)))) else (decide (c_1 ≥ (48 : Int)) && decide (c_1 ≤ (57 : Int))))) else (bif decide (c_1 ≥ (65 : Int)) then (decide (c_1 ≤ (90 : Int)) || (decide (c_1 ≥ (48 : Int)) && decide (c_1 ≤ (57 : Int)))) else (decide (c_1 ≥ (48 : Int)) && decide (c_1 ≤ (57 : Int))))) then some true else
  (R06_letter_L1 F c_1 F (0 : Int)).bind fun (o_1 : Unit ⊕ Bool) =>
  (match o_1 with
  | (.inl q_1) =>
  some false
  | (.inr q_2) =>
  some q_2))
def R06_Name_L1_body (F : Nat) (s_1 : List Int) (rec : Int → Option (Unit ⊕ Int)) (i_1 : Int) : Option (Unit ⊕ Int) :=
  (bif decide (i_1 < (((s_1).length : Nat) : Int)) then (idxL s_1 i_1).bind fun c_1 => (R06_letter F c_1).bind fun r_1 =>
  (bif !r_1 then some (.inr (3 : Int)) else
  rec (w_i64 (i_1 + (1 : Int)))) else
  some (.inl ()))
def R06_Name_L1 (F : Nat) (s_1 : List Int) : Nat → Int → Option (Unit ⊕ Int)
  | 0, _ => none
  | n + 1, i_1 => R06_Name_L1_body F s_1 (R06_Name_L1 F s_1 n) i_1
def R06_Name (F : Nat) (s_1 : List Int) : Option Int :=
  (bif (decide ((((s_1).length : Nat) : Int) < (1 : Int)) || decide ((((s_1).length : Nat) : Int) > (40 : Int))) then some (3 : Int) else
  (R06_Name_L1 F s_1 F (0 : Int)).bind fun (o_1 : Unit ⊕ Int) =>
  (match o_1 with
  | (.inl q_1) =>
  some (0 : Int)
  | (.inr q_2) =>
  some q_2))
def R06_Frames_L1_body (F : Nat) (l_1 : List (List Int)) (rec : Int → Option (Unit ⊕ Int)) (i_1 : Int) : Option (Unit ⊕ Int) :=
  (bif decide (i_1 < (((l_1).length : Nat) : Int)) then (idxL l_1 i_1).bind fun x_1 => (R06_Name F x_1).bind fun r_1 =>
  (bif (r_1 != (0 : Int)) then some (.inr (3 : Int)) else
  rec (w_i64 (i_1 + (1 : Int)))) else
  some (.inl ()))
def R06_Frames_L1 (F : Nat) (l_1 : List (List Int)) : Nat → Int → Option (Unit ⊕ Int)
  | 0, _ => none
  | n + 1, i_1 => R06_Frames_L1_body F l_1 (R06_Frames_L1 F l_1 n) i_1
def R06_Frames (F : Nat) (l_1 : List (List Int)) : Option Int :=
  (bif decide ((((l_1).length : Nat) : Int) > (32 : Int)) then some (7 : Int) else
  (R06_Frames_L1 F l_1 F (0 : Int)).bind fun (o_1 : Unit ⊕ Int) =>
  (match o_1 with
  | (.inl q_1) =>
  some (0 : Int)
  | (.inr q_2) =>
  some q_2))
def R07_within (n_1 : Int) (low_1 : Int) (high_1 : Int) : Option Int :=
  (bif (decide (n_1 < low_1) || decide (n_1 > high_1)) then some (2 : Int) else
  some (0 : Int))
def R07_numbers (e_1 : T_api_Event) : Option Int :=
  (((((bif (e_1.Kind == (1 : Int)) then some (e_1.Kind == (1 : Int)) else
  (bif (e_1.Kind == (2 : Int)) then some (e_1.Kind == (2 : Int)) else
  some (e_1.Kind == (3 : Int)))) : Option Bool)).bind fun (o_2 : Bool) =>
  (bif o_2 then some (.inr (0 : Int)) else
  (bif (e_1.Kind == (4 : Int)) then (R07_within e_1.N (-1000000000000000 : Int) (1000000000000000 : Int)).bind fun r_1 =>
  some (.inr r_1) else
  (bif (e_1.Kind == (5 : Int)) then (R07_within e_1.N (1 : Int) (1000000000000 : Int)).bind fun r_2 =>
  some (.inr r_2) else
  (bif (e_1.Kind == (8 : Int)) then (R07_within e_1.N (0 : Int) (63 : Int)).bind fun r_3 =>
  some (.inr r_3) else
  (bif (e_1.Kind == (9 : Int)) then (R07_within e_1.N (0 : Int) (3 : Int)).bind fun r_4 =>
  (bif ((r_4 == (0 : Int)) && (e_1.N == (2 : Int))) then (R07_within e_1.M (0 : Int) (1000000000000000 : Int)).bind fun r_5 =>
  some (.inr r_5) else
  (bif ((r_4 == (0 : Int)) && (e_1.M != (0 : Int))) then some (.inr (1 : Int)) else
  some (.inr r_4))) else
  some (.inl ())))))) : Option (Unit ⊕ Int))).bind fun (o_1 : Unit ⊕ Int) =>
  (match o_1 with
  | (.inl q_1) =>
  (R07_within e_1.N (0 : Int) (1000000000000000 : Int)).bind fun r_6 =>
  (bif ((r_6 == (0 : Int)) && (e_1.Kind == (11 : Int))) then (R07_within e_1.M (1 : Int) (1000000000000 : Int)).bind fun r_7 =>
  some r_7 else
  some r_6)
  | (.inr q_2) =>
  some q_2)
def R07_Check (F : Nat) (e_1 : T_api_Event) : Option Int :=
  (bif (decide (e_1.At < (0 : Int)) || decide (e_1.At > (1000000000000 : Int))) then some (2 : Int) else
  (bif (decide (e_1.Kind < (1 : Int)) || decide (e_1.Kind > (12 : Int))) then some (1 : Int) else
  (R07_uses e_1.Kind).bind fun r_1 =>
  (( bif !r_1.1 then ( bif !(e_1.Name == ([] : List Int)) then ( some true) else ( bif !r_1.2.1 then ( bif (e_1.N != (0 : Int)) then ( some true) else ( bif !r_1.2.2.1 then ( bif (e_1.M != (0 : Int)) then ( some true) else ( bif !r_1.2.2.2 then ( some (decide ((((e_1.Stack).length : Nat) : Int) > (0 : Int)))) else ( some false))) else ( bif !r_1.2.2.2 then ( some (decide ((((e_1.Stack).length : Nat) : Int) > (0 : Int)))) else ( some false)))) else ( bif !r_1.2.2.1 then ( bif (e_1.M != (0 : Int)) then ( some true) else ( bif !r_1.2.2.2 then ( some (decide ((((e_1.Stack).length : Nat) : Int) > (0 : Int)))) else ( some false))) else ( bif !r_1.2.2.2 then ( some (decide ((((e_1.Stack).length : Nat) : Int) > (0 : Int)))) else ( some false))))) else ( bif !r_1.2.1 then ( bif (e_1.N != (0 : Int)) then ( some true) else ( bif !r_1.2.2.1 then ( bif (e_1.M != (0 : Int)) then ( some true) else ( bif !r_1.2.2.2 then ( some (decide ((((e_1.Stack).length : Nat) : Int) > (0 : Int)))) else ( some false))) else ( bif !r_1.2.2.2 then ( some (decide ((((e_1.Stack).length : Nat) : Int) > (0 : Int)))) else ( some false)))) else ( bif !r_1.2.2.1 then ( bif (e_1.M != (0 : Int)) then ( some true) else ( bif !r_1.2.2.2 then ( some (decide ((((e_1.Stack).length : Nat) : Int) > (0 : Int)))) else ( some false))) else ( bif !r_1.2.2.2 then ( some (decide ((((e_1.Stack).length : Nat) : Int) > (0 : Int)))) else ( some false)))))).bind fun (p_1 : Bool) =>
  (bif p_1 then some (1 : Int) else
  (((bif r_1.1 then (R06_Name F e_1.Name).bind fun r_2 =>
  some r_2 else
  some (0 : Int)) : Option Int)).bind fun (o_1 : Int) =>
  (((bif r_1.2.2.2 then (R06_Frames F e_1.Stack).bind fun r_3 =>
  some r_3 else
  some o_1) : Option Int)).bind fun (o_2 : Int) =>
  (bif (o_2 != (0 : Int)) then some o_2 else
  (R07_numbers e_1).bind fun r_4 =>
  some r_4))))
def R07_CheckAll_L1_body (F : Nat) (l_1 : List (T_api_Event)) (rec : Int → Option (Unit ⊕ Int)) (i_1 : Int) : Option (Unit ⊕ Int) :=
  (bif decide (i_1 < (((l_1).length : Nat) : Int)) then (idxL l_1 i_1).bind fun x_1 => (R07_Check F x_1).bind fun r_1 =>
  (bif (r_1 != (0 : Int)) then some (.inr r_1) else
  (( bif decide (i_1 > (0 : Int)) then ((idxL l_1 i_1).bind fun x_2 => (idxL l_1 (w_i64 (i_1 - (1 : Int)))).bind fun x_3 => some (decide (x_2.At < x_3.At))) else ( some false))).bind fun (p_1 : Bool) =>
  (bif p_1 then some (.inr (11 : Int)) else
  rec (w_i64 (i_1 + (1 : Int))))) else
  some (.inl ()))
def R07_CheckAll_L1 (F : Nat) (l_1 : List (T_api_Event)) : Nat → Int → Option (Unit ⊕ Int)
  | 0, _ => none
  | n + 1, i_1 => R07_CheckAll_L1_body F l_1 (R07_CheckAll_L1 F l_1 n) i_1
def R07_CheckAll (F : Nat) (l_1 : List (T_api_Event)) : Option Int :=
  (R07_CheckAll_L1 F l_1 F (0 : Int)).bind fun (o_1 : Unit ⊕ Int) =>
  (match o_1 with
  | (.inl q_1) =>
  some (0 : Int)
  | (.inr q_2) =>
  some q_2)
def R11_Check (F : Nat) (p_1 : T_api_Packet) : Option Int :=
  (((R11_number p_1.Thread).bind fun r_1 => bif !r_1 then ( some true) else ((R11_number p_1.Serial).bind fun r_2 => bif !r_2 then ( some true) else ((R11_number p_1.Lost).bind fun r_3 => bif !r_3 then ( some true) else ( some (decide (p_1.Lost > p_1.Serial))))))).bind fun (p_2 : Bool) =>
  (bif p_2 then some (2 : Int) else
  (bif decide (p_1.Serial > (w_i64 ((1000000000000000 : Int) - (((p_1.Events).length : Nat) : Int)))) then some (2 : Int) else
  (bif ((((p_1.Events).length : Nat) : Int) == (0 : Int)) then some (8 : Int) else
  (bif decide ((((p_1.Events).length : Nat) : Int) > (1000 : Int)) then some (7 : Int) else
  (R07_CheckAll F p_1.Events).bind fun r_4 =>
  some r_4))))
def R06_Find_L1_body (F : Nat) (l_1 : List (List Int)) (s_1 : List Int) (rec : Int → Option (Unit ⊕ Int)) (i_1 : Int) : Option (Unit ⊕ Int) :=
  (bif decide (i_1 < (((l_1).length : Nat) : Int)) then (idxL l_1 i_1).bind fun x_1 =>
  (bif (x_1 == s_1) then some (.inr i_1) else
  rec (w_i64 (i_1 + (1 : Int)))) else
  some (.inl ()))
def R06_Find_L1 (F : Nat) (l_1 : List (List Int)) (s_1 : List Int) : Nat → Int → Option (Unit ⊕ Int)
  | 0, _ => none
  | n + 1, i_1 => R06_Find_L1_body F l_1 s_1 (R06_Find_L1 F l_1 s_1 n) i_1
def R06_Find (F : Nat) (l_1 : List (List Int)) (s_1 : List Int) : Option Int :=
  (R06_Find_L1 F l_1 s_1 F (0 : Int)).bind fun (o_1 : Unit ⊕ Int) =>
  (match o_1 with
  | (.inl q_1) =>
  some (-1 : Int)
  | (.inr q_2) =>
  some q_2)
def R06_FindStack_L1_body (F : Nat) (l_1 : List (Arr2_Int)) (p_1 : Arr2_Int) (rec : Int → Option (Unit ⊕ Int)) (i_1 : Int) : Option (Unit ⊕ Int) :=
  (bif decide (i_1 < (((l_1).length : Nat) : Int)) then (idxL l_1 i_1).bind fun x_1 =>
  (bif (decide (x_1 = p_1)) then some (.inr i_1) else
  rec (w_i64 (i_1 + (1 : Int)))) else
  some (.inl ()))
def R06_FindStack_L1 (F : Nat) (l_1 : List (Arr2_Int)) (p_1 : Arr2_Int) : Nat → Int → Option (Unit ⊕ Int)
  | 0, _ => none
  | n + 1, i_1 => R06_FindStack_L1_body F l_1 p_1 (R06_FindStack_L1 F l_1 p_1 n) i_1
def R06_FindStack (F : Nat) (l_1 : List (Arr2_Int)) (p_1 : Arr2_Int) : Option Int :=
  (R06_FindStack_L1 F l_1 p_1 F (0 : Int)).bind fun (o_1 : Unit ⊕ Int) =>
  (match o_1 with
  | (.inl q_1) =>
  some (-1 : Int)
  | (.inr q_2) =>
  some q_2)
def R06_depth_L1_body (F : Nat) (stacks_1 : List (Arr2_Int)) (rec : Int → Int → Option Int) (i_2 : Int) (n_1 : Int) : Option Int :=
  (bif decide (i_2 ≥ (0 : Int)) then (idxL stacks_1 i_2).bind fun x_1 =>
  rec x_1.c0 (w_i64 (n_1 + (1 : Int))) else
  some n_1)
def R06_depth_L1 (F : Nat) (stacks_1 : List (Arr2_Int)) : Nat → Int → Int → Option Int
  | 0, _, _ => none
  | n + 1, i_2, n_1 => R06_depth_L1_body F stacks_1 (R06_depth_L1 F stacks_1 n) i_2 n_1
def R06_depth (F : Nat) (stacks_1 : List (Arr2_Int)) (i_1 : Int) : Option Int :=
  (R06_depth_L1 F stacks_1 F i_1 (0 : Int)).bind fun (o_1 : Int) =>
  some o_1
def R06_Check_L1_body (F : Nat) (names_1 : List (List Int)) (rec : Int → Option (Unit ⊕ Int)) (i_1 : Int) : Option (Unit ⊕ Int) :=
  (bif decide (i_1 < (((names_1).length : Nat) : Int)) then (idxL names_1 i_1).bind fun x_1 => (R06_Name F x_1).bind fun r_1 =>
  (bif (r_1 != (0 : Int)) then some (.inr (3 : Int)) else
  (need ((0 : Int) ≤ i_1 ∧ i_1 ≤ (((names_1).length : Nat) : Int))).bind fun _ => (idxL names_1 i_1).bind fun x_2 => (R06_Find F (sub names_1 (0 : Int) i_1) x_2).bind fun r_2 =>
  (bif decide (r_2 ≥ (0 : Int)) then some (.inr (4 : Int)) else
  rec (w_i64 (i_1 + (1 : Int))))) else
  some (.inl ()))
def R06_Check_L1 (F : Nat) (names_1 : List (List Int)) : Nat → Int → Option (Unit ⊕ Int)
  | 0, _ => none
  | n + 1, i_1 => R06_Check_L1_body F names_1 (R06_Check_L1 F names_1 n) i_1
def R06_Check_L2_body (F : Nat) (names_1 : List (List Int)) (stacks_1 : List (Arr2_Int)) (rec : Int → Option (Unit ⊕ Int)) (i_2 : Int) : Option (Unit ⊕ Int) :=
  (bif decide (i_2 < (((stacks_1).length : Nat) : Int)) then (idxL stacks_1 i_2).bind fun x_3 =>
  (bif (decide (x_3.c0 < (-1 : Int)) || (decide (x_3.c0 ≥ i_2) || (decide (x_3.c1 < (0 : Int)) || decide (x_3.c1 ≥ (((names_1).length : Nat) : Int))))) then some (.inr (2 : Int)) else
  (need ((0 : Int) ≤ i_2 ∧ i_2 ≤ (((stacks_1).length : Nat) : Int))).bind fun _ => (R06_FindStack F (sub stacks_1 (0 : Int) i_2) x_3).bind fun r_3 =>
  (bif decide (r_3 ≥ (0 : Int)) then some (.inr (4 : Int)) else
  (R06_depth F stacks_1 i_2).bind fun r_4 =>
  (bif decide (r_4 > (32 : Int)) then some (.inr (7 : Int)) else
  rec (w_i64 (i_2 + (1 : Int)))))) else
  some (.inl ()))
def R06_Check_L2 (F : Nat) (names_1 : List (List Int)) (stacks_1 : List (Arr2_Int)) : Nat → Int → Option (Unit ⊕ Int)
  | 0, _ => none
  | n + 1, i_2 => R06_Check_L2_body F names_1 stacks_1 (R06_Check_L2 F names_1 stacks_1 n) i_2
def R06_Check (F : Nat) (names_1 : List (List Int)) (stacks_1 : List (Arr2_Int)) : Option Int :=
  (bif (decide ((((names_1).length : Nat) : Int) > (1000 : Int)) || decide ((((stacks_1).length : Nat) : Int) > (1000 : Int))) then some (7 : Int) else
  (R06_Check_L1 F names_1 F (0 : Int)).bind fun (o_1 : Unit ⊕ Int) =>
  (match o_1 with
  | (.inl q_1) =>
  (R06_Check_L2 F names_1 stacks_1 F (0 : Int)).bind fun (o_2 : Unit ⊕ Int) =>
  (match o_2 with
  | (.inl q_3) =>
  some (0 : Int)
  | (.inr q_4) =>
  some q_4)
  | (.inr q_2) =>
  some q_2))
def R08_Uses (k_1 : Int) : Option (Bool × Bool × Bool × Bool) :=
  (((bif (k_1 == (1 : Int)) then some (k_1 == (1 : Int)) else
  some (k_1 == (3 : Int))) : Option Bool)).bind fun (o_1 : Bool) =>
  (bif o_1 then some (true, false, false, false) else
  (bif (k_1 == (4 : Int)) then some (true, true, false, false) else
  (bif (k_1 == (5 : Int)) then some (false, true, false, true) else
  (((bif (k_1 == (6 : Int)) then some (k_1 == (6 : Int)) else
  (bif (k_1 == (7 : Int)) then some (k_1 == (7 : Int)) else
  (bif (k_1 == (8 : Int)) then some (k_1 == (8 : Int)) else
  (bif (k_1 == (10 : Int)) then some (k_1 == (10 : Int)) else
  some (k_1 == (12 : Int)))))) : Option Bool)).bind fun (o_2 : Bool) =>
  (bif o_2 then some (false, true, false, false) else
  (bif (k_1 == (9 : Int)) then some (false, true, true, false) else
  (bif (k_1 == (11 : Int)) then some (false, true, true, true) else
  some (false, false, false, false)))))))
def R06_Put (F : Nat) (names_1 : List (List Int)) (s_1 : List Int) : Option (Int × (List (List Int)) × Int) :=
  (R06_Name F s_1).bind fun r_1 =>
  (bif (r_1 != (0 : Int)) then some ((0 : Int), names_1, (3 : Int)) else
  (R06_Find F names_1 s_1).bind fun r_2 =>
  (bif decide (r_2 ≥ (0 : Int)) then some (r_2, names_1, (0 : Int)) else
  (bif decide ((((names_1).length : Nat) : Int) ≥ (1000 : Int)) then some ((0 : Int), names_1, (6 : Int)) else
  (need (((([] : List (List Int))).length + (names_1).length) * 16 ≤ 140737488355328)).bind fun _ => (need (((([] ++ names_1)).length + (([s_1] : List (List Int))).length) * 16 ≤ 140737488355328)).bind fun _ =>
  some ((((names_1).length : Nat) : Int), (([] ++ names_1) ++ ([s_1] : List (List Int))), (0 : Int)))))
def R06_PutStack_L1_body (F : Nat) (names_1 : List (List Int)) (stacks_1 : List (Arr2_Int)) (l_1 : List (List Int)) (rec : Int → (List (List Int)) → Int → (List Arr2_Int) → Option ((Int × (List (List Int)) × (List Arr2_Int)) ⊕ (Int × (List (List Int)) × (List (Arr2_Int)) × Int))) (at__1 : Int) (n_1 : List (List Int)) (k_1 : Int) (row_1 : List Arr2_Int) : Option ((Int × (List (List Int)) × (List Arr2_Int)) ⊕ (Int × (List (List Int)) × (List (Arr2_Int)) × Int)) :=
  (bif decide (k_1 < (((l_1).length : Nat) : Int)) then (((idxL l_1 k_1).bind fun x_1 => (R06_Put F n_1 x_1).bind fun r_2 =>
  (bif (r_2.2.2 != (0 : Int)) then some (.inr ((0 : Int), names_1, stacks_1, r_2.2.2)) else
  (R06_FindStack F row_1 (⟨at__1, r_2.1⟩ : Arr2_Int)).bind fun r_3 =>
  (bif decide (r_3 ≥ (0 : Int)) then some (.inl (r_3, r_2.2.1, row_1)) else
  (bif decide ((((row_1).length : Nat) : Int) ≥ (1000 : Int)) then some (.inr ((0 : Int), names_1, stacks_1, (6 : Int))) else
  (need (((row_1).length + (([(⟨at__1, r_2.1⟩ : Arr2_Int)] : List Arr2_Int)).length) * 16 ≤ 140737488355328)).bind fun _ =>
  some (.inl ((((row_1).length : Nat) : Int), r_2.2.1, (row_1 ++ ([(⟨at__1, r_2.1⟩ : Arr2_Int)] : List Arr2_Int))))))) : Option ((Int × (List (List Int)) × (List Arr2_Int)) ⊕ (Int × (List (List Int)) × (List (Arr2_Int)) × Int)))).bind fun (o_2 : (Int × (List (List Int)) × (List Arr2_Int)) ⊕ (Int × (List (List Int)) × (List (Arr2_Int)) × Int)) =>
  (match o_2 with
  | (.inl q_1) =>
  rec q_1.1 q_1.2.1 (w_i64 (k_1 + (1 : Int))) q_1.2.2
  | (.inr q_2) =>
  some (.inr q_2)) else
  some (.inl (at__1, n_1, row_1)))
def R06_PutStack_L1 (F : Nat) (names_1 : List (List Int)) (stacks_1 : List (Arr2_Int)) (l_1 : List (List Int)) : Nat → Int → (List (List Int)) → Int → (List Arr2_Int) → Option ((Int × (List (List Int)) × (List Arr2_Int)) ⊕ (Int × (List (List Int)) × (List (Arr2_Int)) × Int))
  | 0, _, _, _, _ => none
  | n + 1, at__1, n_1, k_1, row_1 => R06_PutStack_L1_body F names_1 stacks_1 l_1 (R06_PutStack_L1 F names_1 stacks_1 l_1 n) at__1 n_1 k_1 row_1
def R06_PutStack (F : Nat) (names_1 : List (List Int)) (stacks_1 : List (Arr2_Int)) (l_1 : List (List Int)) : Option (Int × (List (List Int)) × (List (Arr2_Int)) × Int) :=
  (R06_Frames F l_1).bind fun r_1 =>
  (bif (r_1 != (0 : Int)) then some ((0 : Int), names_1, stacks_1, r_1) else
  (need (((([] : List Arr2_Int)).length + (stacks_1).length) * 16 ≤ 140737488355328)).bind fun _ =>
  (R06_PutStack_L1 F names_1 stacks_1 l_1 F (-1 : Int) names_1 (0 : Int) ([] ++ stacks_1)).bind fun (o_1 : (Int × (List (List Int)) × (List Arr2_Int)) ⊕ (Int × (List (List Int)) × (List (Arr2_Int)) × Int)) =>
  (match o_1 with
  | (.inl q_3) =>
  some (q_3.1, q_3.2.1, q_3.2.2, (0 : Int))
  | (.inr q_4) =>
  some q_4))
def R05_number (n_1 : Int) : Option Int :=
  (bif decide (n_1 < (0 : Int)) then some (w_u64 ((w_u64 ((2 : Int) * (w_u64 (w_i64 (0 - (w_i64 (n_1 + (1 : Int)))))))) + (1 : Int))) else
  some (w_u64 ((2 : Int) * (w_u64 n_1))))
def R05_PutInt_L1_body (F : Nat) (rec : Int → (List Int) → Option (Int × (List Int))) (u_1 : Int) (row_1 : List Int) : Option (Int × (List Int)) :=
  (bif decide (u_1 ≥ (128 : Int)) then (need (((row_1).length + (([w_u8 ((w_u8 (irem u_1 (128 : Int))) + (128 : Int))] : List Int)).length) * 1 ≤ 140737488355328)).bind fun _ =>
  rec (iquo .u64 u_1 (128 : Int)) (row_1 ++ ([w_u8 ((w_u8 (irem u_1 (128 : Int))) + (128 : Int))] : List Int)) else
  some (u_1, row_1))
def R05_PutInt_L1 (F : Nat) : Nat → Int → (List Int) → Option (Int × (List Int))
  | 0, _, _ => none
  | n + 1, u_1, row_1 => R05_PutInt_L1_body F (R05_PutInt_L1 F n) u_1 row_1
def R05_PutInt (F : Nat) (b_1 : List (Int)) (n_1 : Int) : Option (List (Int)) :=
  (need (((([] : List Int)).length + (b_1).length) * 1 ≤ 140737488355328)).bind fun _ =>
  (R05_number n_1).bind fun r_1 =>
  (R05_PutInt_L1 F F r_1 ([] ++ b_1)).bind fun (o_1 : (Int × (List Int))) =>
  (need (((o_1.2).length + (([w_u8 o_1.1] : List Int)).length) * 1 ≤ 140737488355328)).bind fun _ =>
  some (o_1.2 ++ ([w_u8 o_1.1] : List Int))
def R08_joined_L1_body (F : Nat) (l_1 : List (Int)) (rec : (List Int) → Int → Option (List Int)) (out_1 : List Int) (i_1 : Int) : Option (List Int) :=
  (bif decide (i_1 < (((l_1).length : Nat) : Int)) then (idxL l_1 i_1).bind fun x_1 => (R05_PutInt F out_1 x_1).bind fun r_1 =>
  rec r_1 (w_i64 (i_1 + (1 : Int))) else
  some out_1)
def R08_joined_L1 (F : Nat) (l_1 : List (Int)) : Nat → (List Int) → Int → Option (List Int)
  | 0, _, _ => none
  | n + 1, out_1, i_1 => R08_joined_L1_body F l_1 (R08_joined_L1 F l_1 n) out_1 i_1
def R08_joined (F : Nat) (l_1 : List (Int)) : Option (List (Int)) :=
  (R08_joined_L1 F l_1 F [] (0 : Int)).bind fun (o_1 : (List Int)) =>
  some o_1
def R08_Encode (F : Nat) (names_1 : List (List Int)) (stacks_1 : List (Arr2_Int)) (e_1 : T_api_Event) : Option ((List (Int)) × (List (List Int)) × (List (Arr2_Int)) × Int) :=
  (R06_Check F names_1 stacks_1).bind fun r_1 =>
  (bif (r_1 != (0 : Int)) then some ([], [], [], (1 : Int)) else
  (R07_Check F e_1).bind fun r_2 =>
  (bif (r_2 != (0 : Int)) then some ([], [], [], r_2) else
  (R08_Uses e_1.Kind).bind fun r_3 =>
  (((bif r_3.1 then (R06_Put F names_1 e_1.Name).bind fun r_4 =>
  (bif (r_4.2.2 != (0 : Int)) then some (.inr ([], [], [], r_4.2.2)) else
  (need (((([e_1.Kind, e_1.At] : List Int)).length + (([r_4.1] : List Int)).length) * 8 ≤ 140737488355328)).bind fun _ =>
  some (.inl (r_4.2.1, (([e_1.Kind, e_1.At] : List Int) ++ ([r_4.1] : List Int))))) else
  some (.inl (names_1, ([e_1.Kind, e_1.At] : List Int)))) : Option (((List (List Int)) × (List Int)) ⊕ ((List (Int)) × (List (List Int)) × (List (Arr2_Int)) × Int)))).bind fun (o_1 : ((List (List Int)) × (List Int)) ⊕ ((List (Int)) × (List (List Int)) × (List (Arr2_Int)) × Int)) =>
  (match o_1 with
  | (.inl q_1) =>
  (((bif r_3.2.1 then (need (((q_1.2).length + (([e_1.N] : List Int)).length) * 8 ≤ 140737488355328)).bind fun _ =>
  some (q_1.2 ++ ([e_1.N] : List Int)) else
  some q_1.2) : Option (List Int))).bind fun (o_2 : (List Int)) =>
  (((bif r_3.2.2.1 then (need (((o_2).length + (([e_1.M] : List Int)).length) * 8 ≤ 140737488355328)).bind fun _ =>
  some (o_2 ++ ([e_1.M] : List Int)) else
  some o_2) : Option (List Int))).bind fun (o_3 : (List Int)) =>
  (((bif r_3.2.2.2 then (R06_PutStack F q_1.1 stacks_1 e_1.Stack).bind fun r_5 =>
  (bif (r_5.2.2.2 != (0 : Int)) then some (.inr ([], [], [], r_5.2.2.2)) else
  (need (((o_3).length + (([r_5.1] : List Int)).length) * 8 ≤ 140737488355328)).bind fun _ =>
  some (.inl (r_5.2.1, r_5.2.2.1, (o_3 ++ ([r_5.1] : List Int))))) else
  some (.inl (q_1.1, stacks_1, o_3))) : Option (((List (List Int)) × (List Arr2_Int) × (List Int)) ⊕ ((List (Int)) × (List (List Int)) × (List (Arr2_Int)) × Int)))).bind fun (o_4 : ((List (List Int)) × (List Arr2_Int) × (List Int)) ⊕ ((List (Int)) × (List (List Int)) × (List (Arr2_Int)) × Int)) =>
  (match o_4 with
  | (.inl q_3) =>
  (R08_joined F q_3.2.2).bind fun r_6 =>
  some (r_6, q_3.1, q_3.2.1, (0 : Int))
  | (.inr q_4) =>
  some q_4)
  | (.inr q_2) =>
  some q_2)))
def R05_PutText_L1_body (F : Nat) (s_1 : List Int) (rec : Int → (List Int) → Option (List Int)) (i_1 : Int) (row_1 : List Int) : Option (List Int) :=
  (bif decide (i_1 < (((s_1).length : Nat) : Int)) then (idxL s_1 i_1).bind fun c_1 => (need (((row_1).length + (([c_1] : List Int)).length) * 1 ≤ 140737488355328)).bind fun _ =>
  rec (w_i64 (i_1 + (1 : Int))) (row_1 ++ ([c_1] : List Int)) else
  some row_1)
def R05_PutText_L1 (F : Nat) (s_1 : List Int) : Nat → Int → (List Int) → Option (List Int)
  | 0, _, _ => none
  | n + 1, i_1, row_1 => R05_PutText_L1_body F s_1 (R05_PutText_L1 F s_1 n) i_1 row_1
def R05_PutText (F : Nat) (b_1 : List (Int)) (s_1 : List Int) : Option (List (Int)) :=
  (R05_PutInt F b_1 (((s_1).length : Nat) : Int)).bind fun r_1 =>
  (R05_PutText_L1 F s_1 F (0 : Int) r_1).bind fun (o_1 : (List Int)) =>
  some o_1
def R11_Encode_L1_body (F : Nat) (p_1 : T_api_Packet) (rec : (List (List Int)) → (List Arr2_Int) → Int → (List Int) → Option (((List (List Int)) × (List Arr2_Int) × (List Int)) ⊕ ((List (Int)) × Int))) (names_1 : List (List Int)) (stacks_1 : List Arr2_Int) (i_1 : Int) (row_1 : List Int) : Option (((List (List Int)) × (List Arr2_Int) × (List Int)) ⊕ ((List (Int)) × Int)) :=
  (bif decide (i_1 < (((p_1.Events).length : Nat) : Int)) then (idxL p_1.Events i_1).bind fun x_1 => (R08_Encode F names_1 stacks_1 x_1).bind fun r_2 =>
  (bif (r_2.2.2.2 != (0 : Int)) then some (.inr ([], r_2.2.2.2)) else
  (need (((row_1).length + (r_2.1).length) * 1 ≤ 140737488355328)).bind fun _ =>
  rec r_2.2.1 r_2.2.2.1 (w_i64 (i_1 + (1 : Int))) (row_1 ++ r_2.1)) else
  some (.inl (names_1, stacks_1, row_1)))
def R11_Encode_L1 (F : Nat) (p_1 : T_api_Packet) : Nat → (List (List Int)) → (List Arr2_Int) → Int → (List Int) → Option (((List (List Int)) × (List Arr2_Int) × (List Int)) ⊕ ((List (Int)) × Int))
  | 0, _, _, _, _ => none
  | n + 1, names_1, stacks_1, i_1, row_1 => R11_Encode_L1_body F p_1 (R11_Encode_L1 F p_1 n) names_1 stacks_1 i_1 row_1
def R11_Encode_L2_body (F : Nat) (q_1 : (List (List Int)) × (List Arr2_Int) × (List Int)) (rec : Int → (List Int) → Option (List Int)) (i_2 : Int) (row_2 : List Int) : Option (List Int) :=
  (bif decide (i_2 < (((q_1.1).length : Nat) : Int)) then (idxL q_1.1 i_2).bind fun x_2 => (R05_PutText F row_2 x_2).bind fun r_7 =>
  rec (w_i64 (i_2 + (1 : Int))) r_7 else
  some row_2)
def R11_Encode_L2 (F : Nat) (q_1 : (List (List Int)) × (List Arr2_Int) × (List Int)) : Nat → Int → (List Int) → Option (List Int)
  | 0, _, _ => none
  | n + 1, i_2, row_2 => R11_Encode_L2_body F q_1 (R11_Encode_L2 F q_1 n) i_2 row_2
def R11_Encode_L3_body (F : Nat) (q_1 : (List (List Int)) × (List Arr2_Int) × (List Int)) (rec : Int → (List Int) → Option (List Int)) (i_3 : Int) (row_3 : List Int) : Option (List Int) :=
  (bif decide (i_3 < (((q_1.2.1).length : Nat) : Int)) then (idxL q_1.2.1 i_3).bind fun x_3 => (R05_PutInt F row_3 x_3.c0).bind fun r_9 => (idxL q_1.2.1 i_3).bind fun x_4 => (R05_PutInt F r_9 x_4.c1).bind fun r_10 =>
  rec (w_i64 (i_3 + (1 : Int))) r_10 else
  some row_3)
def R11_Encode_L3 (F : Nat) (q_1 : (List (List Int)) × (List Arr2_Int) × (List Int)) : Nat → Int → (List Int) → Option (List Int)
  | 0, _, _ => none
  | n + 1, i_3, row_3 => R11_Encode_L3_body F q_1 (R11_Encode_L3 F q_1 n) i_3 row_3
def R11_Encode (F : Nat) (p_1 : T_api_Packet) : Option ((List (Int)) × Int) :=
  (R11_Check F p_1).bind fun r_1 =>
  (bif (r_1 != (0 : Int)) then some ([], r_1) else
  (R11_Encode_L1 F p_1 F [] [] (0 : Int) []).bind fun (o_1 : ((List (List Int)) × (List Arr2_Int) × (List Int)) ⊕ ((List (Int)) × Int)) =>
  (match o_1 with
  | (.inl q_1) =>
  (R05_PutInt F [] p_1.Thread).bind fun r_3 =>
  (R05_PutInt F r_3 p_1.Serial).bind fun r_4 =>
  (R05_PutInt F r_4 p_1.Lost).bind fun r_5 =>
  (R05_PutInt F r_5 (((q_1.1).length : Nat) : Int)).bind fun r_6 =>
  (R11_Encode_L2 F q_1 F (0 : Int) r_6).bind fun (o_2 : (List Int)) =>
  (R05_PutInt F o_2 (((q_1.2.1).length : Nat) : Int)).bind fun r_8 =>
  (R11_Encode_L3 F q_1 F (0 : Int) r_8).bind fun (o_3 : (List Int)) =>
  (R05_PutInt F o_3 (((p_1.Events).length : Nat) : Int)).bind fun r_11 => (need (((r_11).length + (q_1.2.2).length) * 1 ≤ 140737488355328)).bind fun _ =>
  some ((r_11 ++ q_1.2.2), (0 : Int))
  | (.inr q_2) =>
  some q_2))
def L11_PacketEncodes (F : Nat) (p_1 : T_api_Packet) : Option Bool :=
  (L11_few F p_1).bind fun r_1 =>
  (bif !r_1 then (L11_lives F).bind fun r_2 =>
  some r_2 else
  (packet_Encode F p_1).bind fun r_3 =>
  (R11_Encode F p_1).bind fun r_4 =>
  (( bif (r_3.1 == r_4.1) then ( bif (r_3.2 == r_4.2) then ((L11_lives F).bind fun r_5 => some r_5) else ( some false)) else ( some false))).bind fun (p_2 : Bool) =>
  some p_2)
structure T_tracebookref11_Cursor where
  B : List (Int)
  At : Int
  E : Int
  deriving DecidableEq, Inhabited
end Go.Ab
