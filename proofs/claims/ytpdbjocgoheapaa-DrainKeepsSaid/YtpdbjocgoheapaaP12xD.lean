/- Printed: the typed Lean functions of the Go functions, or the proofs that the Go functions meet them. No conditions but those that the theorems name. -/
import Derived.Test.YtpdbjocgoheapaaA30
import Derived.Test.YtpdbjocgoheapaaA41
namespace Go.Ab
open Go
set_option linter.unusedVariables false

structure T_api_Thread where
  Id : Int
  Name : List Int
  Domain : Int
  deriving DecidableEq, Inhabited
def v_T_api_Thread (s : T_api_Thread) : List AV := [.int .i64 s.Id, .str s.Name, .int .i64 s.Domain]
def e_T_api_Thread (s : T_api_Thread) : AV := .agg (v_T_api_Thread s)

def L12_two : Option (List (T_api_Thread)) :=
  some ([(⟨(1 : Int), ([120] : List Int), (0 : Int)⟩ : T_api_Thread), (⟨(2 : Int), ([121] : List Int), (0 : Int)⟩ : T_api_Thread)] : List T_api_Thread)


def stringslite_IndexByte (s_1 : List Int) (c_1 : Int) : Option Int :=
  some (idxByte s_1 c_1)


def strings_IndexByte (s_1 : List Int) (c_1 : Int) : Option Int :=
  (stringslite_IndexByte s_1 c_1).bind fun r_1 =>
  some r_1


def intern_letter (c_1 : Int) : Option Bool :=
  (( bif decide (c_1 ≥ (97 : Int)) then ( bif decide (c_1 ≤ (122 : Int)) then ( some true) else ( bif decide (c_1 ≥ (65 : Int)) then ( bif decide (c_1 ≤ (90 : Int)) then ( some true) else ( bif decide (c_1 ≥ (48 : Int)) then ( bif decide (c_1 ≤ (57 : Int)) then ( some true) else ((strings_IndexByte ([95, 46, 58, 47, 60, 62, 36, 42, 126, 45] : List Int) c_1).bind fun r_1 => some (decide (r_1 ≥ (0 : Int))))) else ((strings_IndexByte ([95, 46, 58, 47, 60, 62, 36, 42, 126, 45] : List Int) c_1).bind fun r_1 => some (decide (r_1 ≥ (0 : Int)))))) else ( bif decide (c_1 ≥ (48 : Int)) then ( bif decide (c_1 ≤ (57 : Int)) then ( some true) else ((strings_IndexByte ([95, 46, 58, 47, 60, 62, 36, 42, 126, 45] : List Int) c_1).bind fun r_1 => some (decide (r_1 ≥ (0 : Int))))) else ((strings_IndexByte ([95, 46, 58, 47, 60, 62, 36, 42, 126, 45] : List Int) c_1).bind fun r_1 => some (decide (r_1 ≥ (0 : Int))))))) else ( bif decide (c_1 ≥ (65 : Int)) then ( bif decide (c_1 ≤ (90 : Int)) then ( some true) else ( bif decide (c_1 ≥ (48 : Int)) then ( bif decide (c_1 ≤ (57 : Int)) then ( some true) else ((strings_IndexByte ([95, 46, 58, 47, 60, 62, 36, 42, 126, 45] : List Int) c_1).bind fun r_1 => some (decide (r_1 ≥ (0 : Int))))) else ((strings_IndexByte ([95, 46, 58, 47, 60, 62, 36, 42, 126, 45] : List Int) c_1).bind fun r_1 => some (decide (r_1 ≥ (0 : Int)))))) else ( bif decide (c_1 ≥ (48 : Int)) then ( bif decide (c_1 ≤ (57 : Int)) then ( some true) else ((strings_IndexByte ([95, 46, 58, 47, 60, 62, 36, 42, 126, 45] : List Int) c_1).bind fun r_1 => some (decide (r_1 ≥ (0 : Int))))) else ((strings_IndexByte ([95, 46, 58, 47, 60, 62, 36, 42, 126, 45] : List Int) c_1).bind fun r_1 => some (decide (r_1 ≥ (0 : Int)))))))).bind fun (p_1 : Bool) =>
  some p_1


def intern_Name_L1_body (F : Nat) (s_1 : List Int) (rec : Int → Option (Unit ⊕ Int)) (v_1 : Int) : Option (Unit ⊕ Int) :=
  (bif decide (v_1 < (((s_1).length : Nat) : Int)) then (idxL s_1 v_1).bind fun c_1 => (intern_letter c_1).bind fun r_1 =>
  (bif !r_1 then some (.inr (3 : Int)) else
  rec (w_i64 (v_1 + (1 : Int)))) else
  some (.inl ()))

def intern_Name_L1 (F : Nat) (s_1 : List Int) : Nat → Int → Option (Unit ⊕ Int)
  | 0, _ => none
  | n + 1, v_1 => intern_Name_L1_body F s_1 (intern_Name_L1 F s_1 n) v_1

def intern_Name (F : Nat) (s_1 : List Int) : Option Int :=
  (bif ((s_1 == ([] : List Int)) || decide ((((s_1).length : Nat) : Int) > (40 : Int))) then some (3 : Int) else
  (intern_Name_L1 F s_1 F (0 : Int)).bind fun (o_1 : Unit ⊕ Int) =>
  (match o_1 with
  | (.inl q_1) =>
  some (0 : Int)
  | (.inr q_2) =>
  some q_2))


def producer_Thread (F : Nat) (t_1 : T_api_Thread) : Option Int :=
  (bif (decide (t_1.Id < (0 : Int)) || (decide (t_1.Id > (1000000000000000 : Int)) || (decide (t_1.Domain < (0 : Int)) || decide (t_1.Domain ≥ (8 : Int))))) then some (2 : Int) else
  (intern_Name F t_1.Name).bind fun r_1 =>
  some r_1)


def drain_threads_L1_body (F : Nat) (l_1 : List (T_api_Thread)) (rec : Int → (List (Int × Bool)) → Option (Unit ⊕ Int)) (v_1 : Int) (row_1 : List (Int × Bool)) : Option (Unit ⊕ Int) :=
  (bif decide (v_1 < (((l_1).length : Nat) : Int)) then (idxL l_1 v_1).bind fun x_1 =>
  (producer_Thread F x_1).bind fun r_1 =>
  (bif (r_1 != (0 : Int)) then some (.inr r_1) else
  (bif ((mget row_1 x_1.Id).getD false) then some (.inr (4 : Int)) else
  (need ((row_1).length < 140737488355328)).bind fun _ =>
  rec (w_i64 (v_1 + (1 : Int))) (mput row_1 x_1.Id true))) else
  some (.inl ()))

def drain_threads_L1 (F : Nat) (l_1 : List (T_api_Thread)) : Nat → Int → (List (Int × Bool)) → Option (Unit ⊕ Int)
  | 0, _, _ => none
  | n + 1, v_1, row_1 => drain_threads_L1_body F l_1 (drain_threads_L1 F l_1 n) v_1 row_1

def drain_threads (F : Nat) (l_1 : List (T_api_Thread)) : Option Int :=
  (bif ((((l_1).length : Nat) : Int) == (0 : Int)) then some (8 : Int) else
  (bif decide ((((l_1).length : Nat) : Int) > (64 : Int)) then some (7 : Int) else
  (drain_threads_L1 F l_1 F (0 : Int) []).bind fun (o_1 : Unit ⊕ Int) =>
  (match o_1 with
  | (.inl q_1) =>
  some (0 : Int)
  | (.inr q_2) =>
  some q_2)))


structure T_api_Event where
  At : Int
  Kind : Int
  Name : List Int
  N : Int
  M : Int
  Stack : List (List Int)
  deriving DecidableEq, Inhabited
def v_T_api_Event (s : T_api_Event) : List AV := [.int .i64 s.At, .int .i64 s.Kind, .str s.Name, .int .i64 s.N, .int .i64 s.M, .sl false 1 (List.map AV.str s.Stack)]
def e_T_api_Event (s : T_api_Event) : AV := .agg (v_T_api_Event s)

structure T_api_Packet where
  Thread : Int
  Serial : Int
  Lost : Int
  Events : List (T_api_Event)
  deriving DecidableEq, Inhabited
def v_T_api_Packet (s : T_api_Packet) : List AV := [.int .i64 s.Thread, .int .i64 s.Serial, .int .i64 s.Lost, .sl false 6 (List.map e_T_api_Event s.Events)]
def e_T_api_Packet (s : T_api_Packet) : AV := .agg (v_T_api_Packet s)

structure T_api_Service where
  Threads : List (T_api_Thread)
  Next : List (Int)
  Queue : List (T_api_Packet)
  deriving DecidableEq, Inhabited
def v_T_api_Service (s : T_api_Service) : List AV := [.sl false 3 (List.map e_T_api_Thread s.Threads), .sl false 1 (List.map (AV.int .i64) s.Next), .sl false 4 (List.map e_T_api_Packet s.Queue)]
def e_T_api_Service (s : T_api_Service) : AV := .agg (v_T_api_Service s)

def slices_Clone_tracebook_api_Thread_tracebook_api_Thread (s_1 : List (T_api_Thread)) : Option (List (T_api_Thread)) :=
  (need (((([] : List T_api_Thread)).length + (s_1).length) * 32 ≤ 140737488355328)).bind fun _ =>
  some ([] ++ s_1)


def drain_New (F : Nat) (l_1 : List (T_api_Thread)) : Option (T_api_Service × Int) :=
  (drain_threads F l_1).bind fun r_1 =>
  (bif (r_1 != (0 : Int)) then some ((⟨[], [], []⟩ : T_api_Service), r_1) else
  (slices_Clone_tracebook_api_Thread_tracebook_api_Thread l_1).bind fun r_2 => (need (((l_1).length) * 8 ≤ 281474976710656)).bind fun _ =>
  some ((⟨r_2, (List.replicate ((l_1).length) (0 : Int)), []⟩ : T_api_Service), (0 : Int)))


def L12_mark (at__1 : Int) : Option T_api_Event :=
  some (⟨at__1, (3 : Int), ([97] : List Int), (0 : Int), (0 : Int), []⟩ : T_api_Event)


def L12_some_L1_body (F : Nat) (serial_1 : Int) (n_1 : Int) (rec : Int → (List T_api_Event) → Option (List T_api_Event)) (i_1 : Int) (row_1 : List T_api_Event) : Option (List T_api_Event) :=
  (bif decide (i_1 < n_1) then (L12_mark (w_i64 ((w_i64 ((10 : Int) + serial_1)) + i_1))).bind fun r_1 => (need (((row_1).length + (([r_1] : List T_api_Event)).length) * 72 ≤ 140737488355328)).bind fun _ =>
  rec (w_i64 (i_1 + (1 : Int))) (row_1 ++ ([r_1] : List T_api_Event)) else
  some row_1)

def L12_some_L1 (F : Nat) (serial_1 : Int) (n_1 : Int) : Nat → Int → (List T_api_Event) → Option (List T_api_Event)
  | 0, _, _ => none
  | n + 1, i_1, row_1 => L12_some_L1_body F serial_1 n_1 (L12_some_L1 F serial_1 n_1 n) i_1 row_1

def L12_some (F : Nat) (thread_1 : Int) (serial_1 : Int) (lost_1 : Int) (n_1 : Int) : Option T_api_Packet :=
  (L12_some_L1 F serial_1 n_1 F (0 : Int) []).bind fun (o_1 : (List T_api_Event)) =>
  some (⟨thread_1, serial_1, lost_1, o_1⟩ : T_api_Packet)


def drain_Check_1 (n_1 : Int) : Option Bool :=
  some (decide (n_1 < (0 : Int)) || decide (n_1 > (1000000000000000 : Int)))


def slices_IndexFunc_int_int_L1_body (F : Nat) (s_1 : List (Int)) (rec : Int → Option (Unit ⊕ Int)) (v_1 : Int) : Option (Unit ⊕ Int) :=
  (bif decide (v_1 < (((s_1).length : Nat) : Int)) then (idxL s_1 v_1).bind fun x_1 => (drain_Check_1 x_1).bind fun r_1 =>
  (bif r_1 then some (.inr v_1) else
  rec (w_i64 (v_1 + (1 : Int)))) else
  some (.inl ()))

def slices_IndexFunc_int_int_L1 (F : Nat) (s_1 : List (Int)) : Nat → Int → Option (Unit ⊕ Int)
  | 0, _ => none
  | n + 1, v_1 => slices_IndexFunc_int_int_L1_body F s_1 (slices_IndexFunc_int_int_L1 F s_1 n) v_1

def slices_IndexFunc_int_int (F : Nat) (s_1 : List (Int)) : Option Int :=
  (slices_IndexFunc_int_int_L1 F s_1 F (0 : Int)).bind fun (o_1 : Unit ⊕ Int) =>
  (match o_1 with
  | (.inl q_1) =>
  some (-1 : Int)
  | (.inr q_2) =>
  some q_2)


def slices_ContainsFunc_int_int (F : Nat) (s_1 : List (Int)) : Option Bool :=
  (slices_IndexFunc_int_int F s_1).bind fun r_1 =>
  some (decide (r_1 ≥ (0 : Int)))


def drain_find_1 (t_1 : T_api_Thread) (a_1 : Int) : Option Bool :=
  some (t_1.Id == a_1)


def slices_IndexFunc_tracebook_api_Thread_tracebook_api_Thread_L1_body (F : Nat) (s_1 : List (T_api_Thread)) (c_1 : Int) (rec : Int → Option (Unit ⊕ Int)) (v_1 : Int) : Option (Unit ⊕ Int) :=
  (bif decide (v_1 < (((s_1).length : Nat) : Int)) then (idxL s_1 v_1).bind fun x_1 => (drain_find_1 x_1 c_1).bind fun r_1 =>
  (bif r_1 then some (.inr v_1) else
  rec (w_i64 (v_1 + (1 : Int)))) else
  some (.inl ()))

def slices_IndexFunc_tracebook_api_Thread_tracebook_api_Thread_L1 (F : Nat) (s_1 : List (T_api_Thread)) (c_1 : Int) : Nat → Int → Option (Unit ⊕ Int)
  | 0, _ => none
  | n + 1, v_1 => slices_IndexFunc_tracebook_api_Thread_tracebook_api_Thread_L1_body F s_1 c_1 (slices_IndexFunc_tracebook_api_Thread_tracebook_api_Thread_L1 F s_1 c_1 n) v_1

def slices_IndexFunc_tracebook_api_Thread_tracebook_api_Thread (F : Nat) (s_1 : List (T_api_Thread)) (c_1 : Int) : Option Int :=
  (slices_IndexFunc_tracebook_api_Thread_tracebook_api_Thread_L1 F s_1 c_1 F (0 : Int)).bind fun (o_1 : Unit ⊕ Int) =>
  (match o_1 with
  | (.inl q_1) =>
  some (-1 : Int)
  | (.inr q_2) =>
  some q_2)


def drain_find (F : Nat) (s_1 : T_api_Service) (thread_1 : Int) : Option Int :=
  (slices_IndexFunc_tracebook_api_Thread_tracebook_api_Thread F s_1.Threads thread_1).bind fun r_1 =>
  some r_1


structure T_event_form where
  word : List Int
  name : Bool
  n : Bool
  m : Bool
  stack : Bool
  least : Int
  most : Int
  mLeast : Int
  mMost : Int
  deriving DecidableEq, Inhabited
def v_T_event_form (s : T_event_form) : List AV := [.str s.word, .bool s.name, .bool s.n, .bool s.m, .bool s.stack, .int .i64 s.least, .int .i64 s.most, .int .i64 s.mLeast, .int .i64 s.mMost]
def e_T_event_form (s : T_event_form) : AV := .agg (v_T_event_form s)

def event_forms : Option (List (T_event_form)) :=
  some ([(⟨([] : List Int), false, false, false, false, (0 : Int), (0 : Int), (0 : Int), (0 : Int)⟩ : T_event_form), (⟨([98, 101, 103, 105, 110] : List Int), true, false, false, false, (0 : Int), (0 : Int), (0 : Int), (0 : Int)⟩ : T_event_form), (⟨([101, 110, 100] : List Int), false, false, false, false, (0 : Int), (0 : Int), (0 : Int), (0 : Int)⟩ : T_event_form), (⟨([109, 97, 114, 107] : List Int), true, false, false, false, (0 : Int), (0 : Int), (0 : Int), (0 : Int)⟩ : T_event_form), (⟨([99, 111, 117, 110, 116] : List Int), true, true, false, false, (-1000000000000000 : Int), (1000000000000000 : Int), (0 : Int), (0 : Int)⟩ : T_event_form), (⟨([115, 97, 109, 112, 108, 101] : List Int), false, true, false, true, (1 : Int), (1000000000000 : Int), (0 : Int), (0 : Int)⟩ : T_event_form), (⟨([115, 101, 110, 100] : List Int), false, true, false, false, (0 : Int), (1000000000000000 : Int), (0 : Int), (0 : Int)⟩ : T_event_form), (⟨([114, 101, 99, 118] : List Int), false, true, false, false, (0 : Int), (1000000000000000 : Int), (0 : Int), (0 : Int)⟩ : T_event_form), (⟨([114, 117, 110] : List Int), false, true, false, false, (0 : Int), (63 : Int), (0 : Int), (0 : Int)⟩ : T_event_form), (⟨([115, 116, 111, 112] : List Int), false, true, true, false, (0 : Int), (3 : Int), (0 : Int), (1000000000000000 : Int)⟩ : T_event_form), (⟨([119, 97, 107, 101] : List Int), false, true, false, false, (0 : Int), (1000000000000000 : Int), (0 : Int), (0 : Int)⟩ : T_event_form), (⟨([97, 108, 108, 111, 99] : List Int), false, true, true, true, (0 : Int), (1000000000000000 : Int), (1 : Int), (1000000000000 : Int)⟩ : T_event_form), (⟨([102, 114, 101, 101] : List Int), false, true, false, false, (0 : Int), (1000000000000000 : Int), (0 : Int), (0 : Int)⟩ : T_event_form)] : List T_event_form)


def event_formOf (k_1 : Int) : Option (T_event_form × Bool) :=
  (event_forms ).bind fun r_1 =>
  (bif (decide (k_1 < (1 : Int)) || decide (k_1 ≥ (((r_1).length : Nat) : Int))) then some ((⟨([] : List Int), false, false, false, false, (0 : Int), (0 : Int), (0 : Int), (0 : Int)⟩ : T_event_form), false) else
  (idxL r_1 k_1).bind fun x_1 =>
  some (x_1, true))


def intern_Frames_L1_body (F : Nat) (l_1 : List (List Int)) (rec : Int → Option (Unit ⊕ Int)) (v_1 : Int) : Option (Unit ⊕ Int) :=
  (bif decide (v_1 < (((l_1).length : Nat) : Int)) then (idxL l_1 v_1).bind fun x_1 =>
  (intern_Name F x_1).bind fun r_1 =>
  (bif (r_1 != (0 : Int)) then some (.inr r_1) else
  rec (w_i64 (v_1 + (1 : Int)))) else
  some (.inl ()))

def intern_Frames_L1 (F : Nat) (l_1 : List (List Int)) : Nat → Int → Option (Unit ⊕ Int)
  | 0, _ => none
  | n + 1, v_1 => intern_Frames_L1_body F l_1 (intern_Frames_L1 F l_1 n) v_1

def intern_Frames (F : Nat) (l_1 : List (List Int)) : Option Int :=
  (bif decide ((((l_1).length : Nat) : Int) > (32 : Int)) then some (7 : Int) else
  (intern_Frames_L1 F l_1 F (0 : Int)).bind fun (o_1 : Unit ⊕ Int) =>
  (match o_1 with
  | (.inl q_1) =>
  some (0 : Int)
  | (.inr q_2) =>
  some q_2))


def event_names (F : Nat) (f_1 : T_event_form) (e_1 : T_api_Event) : Option Int :=
  (bif f_1.name then (intern_Name F e_1.Name).bind fun r_1 =>
  some r_1 else
  (intern_Frames F e_1.Stack).bind fun r_2 =>
  some r_2)


def event_Check (F : Nat) (e_1 : T_api_Event) : Option Int :=
  (bif (decide (e_1.At < (0 : Int)) || decide (e_1.At > (1000000000000 : Int))) then some (2 : Int) else
  (event_formOf e_1.Kind).bind fun r_1 =>
  (( bif !r_1.2 then ( some true) else ( bif !r_1.1.name then ( bif !(e_1.Name == ([] : List Int)) then ( some true) else ( bif !r_1.1.n then ( bif (e_1.N != (0 : Int)) then ( some true) else ( bif !r_1.1.m then ( bif (e_1.M != (0 : Int)) then ( some true) else ( bif !r_1.1.stack then ( some (decide ((((e_1.Stack).length : Nat) : Int) > (0 : Int)))) else ( some false))) else ( bif !r_1.1.stack then ( some (decide ((((e_1.Stack).length : Nat) : Int) > (0 : Int)))) else ( some false)))) else ( bif !r_1.1.m then ( bif (e_1.M != (0 : Int)) then ( some true) else ( bif !r_1.1.stack then ( some (decide ((((e_1.Stack).length : Nat) : Int) > (0 : Int)))) else ( some false))) else ( bif !r_1.1.stack then ( some (decide ((((e_1.Stack).length : Nat) : Int) > (0 : Int)))) else ( some false))))) else ( bif !r_1.1.n then ( bif (e_1.N != (0 : Int)) then ( some true) else ( bif !r_1.1.m then ( bif (e_1.M != (0 : Int)) then ( some true) else ( bif !r_1.1.stack then ( some (decide ((((e_1.Stack).length : Nat) : Int) > (0 : Int)))) else ( some false))) else ( bif !r_1.1.stack then ( some (decide ((((e_1.Stack).length : Nat) : Int) > (0 : Int)))) else ( some false)))) else ( bif !r_1.1.m then ( bif (e_1.M != (0 : Int)) then ( some true) else ( bif !r_1.1.stack then ( some (decide ((((e_1.Stack).length : Nat) : Int) > (0 : Int)))) else ( some false))) else ( bif !r_1.1.stack then ( some (decide ((((e_1.Stack).length : Nat) : Int) > (0 : Int)))) else ( some false))))))).bind fun (p_1 : Bool) =>
  (bif p_1 then some (1 : Int) else
  (event_names F r_1.1 e_1).bind fun r_2 =>
  (bif (r_2 != (0 : Int)) then some r_2 else
  (bif (r_1.1.n && (decide (e_1.N < r_1.1.least) || decide (e_1.N > r_1.1.most))) then some (2 : Int) else
  (bif ((e_1.Kind == (9 : Int)) && ((e_1.N != (2 : Int)) && (e_1.M != (0 : Int)))) then some (1 : Int) else
  (bif (r_1.1.m && (bif decide (e_1.M < r_1.1.mLeast) then ((e_1.Kind != (9 : Int)) || (e_1.N == (2 : Int))) else (decide (e_1.M > r_1.1.mMost) && ((e_1.Kind != (9 : Int)) || (e_1.N == (2 : Int)))))) then some (2 : Int) else
  some (0 : Int)))))))


def event_CheckAll_L1_body (F : Nat) (l_1 : List (T_api_Event)) (rec : Int → Option (Unit ⊕ Int)) (v_1 : Int) : Option (Unit ⊕ Int) :=
  (bif decide (v_1 < (((l_1).length : Nat) : Int)) then (idxL l_1 v_1).bind fun x_1 =>
  (event_Check F x_1).bind fun r_1 =>
  (bif (r_1 != (0 : Int)) then some (.inr r_1) else
  (( bif decide (v_1 > (0 : Int)) then ((idxL l_1 (w_i64 (v_1 - (1 : Int)))).bind fun x_2 => some (decide (x_1.At < x_2.At))) else ( some false))).bind fun (p_1 : Bool) =>
  (bif p_1 then some (.inr (11 : Int)) else
  rec (w_i64 (v_1 + (1 : Int))))) else
  some (.inl ()))

def event_CheckAll_L1 (F : Nat) (l_1 : List (T_api_Event)) : Nat → Int → Option (Unit ⊕ Int)
  | 0, _ => none
  | n + 1, v_1 => event_CheckAll_L1_body F l_1 (event_CheckAll_L1 F l_1 n) v_1

def event_CheckAll (F : Nat) (l_1 : List (T_api_Event)) : Option Int :=
  (event_CheckAll_L1 F l_1 F (0 : Int)).bind fun (o_1 : Unit ⊕ Int) =>
  (match o_1 with
  | (.inl q_1) =>
  some (0 : Int)
  | (.inr q_2) =>
  some q_2)


def packet_Check_L1_body (F : Nat) (p_1 : T_api_Packet) (rec : Int → Option (Unit ⊕ Int)) (v_1 : Int) : Option (Unit ⊕ Int) :=
  (bif decide (v_1 < ((3 : Nat) : Int)) then (idxL ([p_1.Thread, p_1.Serial, p_1.Lost] : List Int) v_1).bind fun x_1 =>
  (bif (decide (x_1 < (0 : Int)) || decide (x_1 > (1000000000000000 : Int))) then some (.inr (2 : Int)) else
  rec (w_i64 (v_1 + (1 : Int)))) else
  some (.inl ()))

def packet_Check_L1 (F : Nat) (p_1 : T_api_Packet) : Nat → Int → Option (Unit ⊕ Int)
  | 0, _ => none
  | n + 1, v_1 => packet_Check_L1_body F p_1 (packet_Check_L1 F p_1 n) v_1

def packet_Check (F : Nat) (p_1 : T_api_Packet) : Option Int :=
  (packet_Check_L1 F p_1 F (0 : Int)).bind fun (o_1 : Unit ⊕ Int) =>
  (match o_1 with
  | (.inl q_1) =>
  (((bif decide (p_1.Lost > p_1.Serial) then some (decide (p_1.Lost > p_1.Serial)) else
  some (decide ((w_i64 (p_1.Serial + (((p_1.Events).length : Nat) : Int))) > (1000000000000000 : Int)))) : Option Bool)).bind fun (o_2 : Bool) =>
  (bif o_2 then some (2 : Int) else
  (bif ((((p_1.Events).length : Nat) : Int) == (0 : Int)) then some (8 : Int) else
  (bif decide ((((p_1.Events).length : Nat) : Int) > (1000 : Int)) then some (7 : Int) else
  (event_CheckAll F p_1.Events).bind fun r_1 =>
  some r_1)))
  | (.inr q_2) =>
  some q_2)


def drain_end (p_1 : T_api_Packet) : Option Int :=
  some (w_i64 (p_1.Serial + (((p_1.Events).length : Nat) : Int)))


def drain_Check_L1_body (F : Nat) (s_1 : T_api_Service) (rec : Int → (List (Int × Int)) → Option ((List (Int × Int)) ⊕ Int)) (v_1 : Int) (row_1 : List (Int × Int)) : Option ((List (Int × Int)) ⊕ Int) :=
  (bif decide (v_1 < (((s_1.Queue).length : Nat) : Int)) then (idxL s_1.Queue v_1).bind fun x_1 =>
  (drain_find F s_1 x_1.Thread).bind fun r_3 =>
  (((packet_Check F x_1).bind fun r_4 => bif (r_4 != (0 : Int)) then ( some true) else ( some (decide (r_3 < (0 : Int)))))).bind fun (p_2 : Bool) =>
  (bif p_2 then some (.inr (10 : Int)) else
  (bif ((mget row_1 r_3).isSome && (x_1.Serial != (w_i64 (((mget row_1 r_3).getD (0 : Int)) + x_1.Lost)))) then some (.inr (10 : Int)) else
  (drain_end x_1).bind fun r_5 => (need ((row_1).length < 140737488355328)).bind fun _ =>
  rec (w_i64 (v_1 + (1 : Int))) (mput row_1 r_3 r_5))) else
  some (.inl row_1))

def drain_Check_L1 (F : Nat) (s_1 : T_api_Service) : Nat → Int → (List (Int × Int)) → Option ((List (Int × Int)) ⊕ Int)
  | 0, _, _ => none
  | n + 1, v_1, row_1 => drain_Check_L1_body F s_1 (drain_Check_L1 F s_1 n) v_1 row_1

def drain_Check_L2_body (F : Nat) (s_1 : T_api_Service) (rec : (List (Int × Int)) → Option (Unit ⊕ Int)) (left_1 : List (Int × Int)) : Option (Unit ⊕ Int) :=
  (bif left_1.isEmpty then some (.inl ()) else pickAll left_1 fun p_3 left_2 =>
  (idxL s_1.Next p_3.1).bind fun x_2 =>
  (bif (x_2 != p_3.2) then some (.inr (10 : Int)) else
  rec left_2))

def drain_Check_L2 (F : Nat) (s_1 : T_api_Service) : Nat → (List (Int × Int)) → Option (Unit ⊕ Int)
  | 0, _ => none
  | n + 1, left_1 => drain_Check_L2_body F s_1 (drain_Check_L2 F s_1 n) left_1

def drain_Check (F : Nat) (s_1 : T_api_Service) : Option Int :=
  (drain_threads F s_1.Threads).bind fun r_1 =>
  (bif (r_1 != (0 : Int)) then some r_1 else
  (( bif ((((s_1.Next).length : Nat) : Int) != (((s_1.Threads).length : Nat) : Int)) then ( some true) else ((slices_ContainsFunc_int_int F s_1.Next).bind fun r_2 => some r_2))).bind fun (p_1 : Bool) =>
  (bif p_1 then some (10 : Int) else
  (drain_Check_L1 F s_1 F (0 : Int) []).bind fun (o_1 : (List (Int × Int)) ⊕ Int) =>
  (match o_1 with
  | (.inl q_1) =>
  (drain_Check_L2 F s_1 F q_1).bind fun (o_2 : Unit ⊕ Int) =>
  (match o_2 with
  | (.inl q_3) =>
  some (0 : Int)
  | (.inr q_4) =>
  some q_4)
  | (.inr q_2) =>
  some q_2)))


def drain_events_L1_body (F : Nat) (l_1 : List (T_api_Packet)) (rec : Int → Int → Option Int) (n_1 : Int) (v_1 : Int) : Option Int :=
  (bif decide (v_1 < (((l_1).length : Nat) : Int)) then (idxL l_1 v_1).bind fun x_1 =>
  rec (w_i64 (n_1 + (((x_1.Events).length : Nat) : Int))) (w_i64 (v_1 + (1 : Int))) else
  some n_1)

def drain_events_L1 (F : Nat) (l_1 : List (T_api_Packet)) : Nat → Int → Int → Option Int
  | 0, _, _ => none
  | n + 1, n_1, v_1 => drain_events_L1_body F l_1 (drain_events_L1 F l_1 n) n_1 v_1

def drain_events (F : Nat) (l_1 : List (T_api_Packet)) : Option Int :=
  (drain_events_L1 F l_1 F (0 : Int) (0 : Int)).bind fun (o_1 : Int) =>
  some o_1


def slices_Clone_int_int (s_1 : List (Int)) : Option (List (Int)) :=
  (need (((([] : List Int)).length + (s_1).length) * 8 ≤ 140737488355328)).bind fun _ =>
  some ([] ++ s_1)


def slices_Clone_tracebook_api_Packet_tracebook_api_Packet (s_1 : List (T_api_Packet)) : Option (List (T_api_Packet)) :=
  (need (((([] : List T_api_Packet)).length + (s_1).length) * 48 ≤ 140737488355328)).bind fun _ =>
  some ([] ++ s_1)


def drain_Collect (F : Nat) (s_1 : T_api_Service) (p_1 : T_api_Packet) : Option (T_api_Service × Int) :=
  (drain_Check F s_1).bind fun r_1 =>
  (bif (r_1 != (0 : Int)) then some (s_1, r_1) else
  (packet_Check F p_1).bind fun r_2 =>
  (bif (r_2 != (0 : Int)) then some (s_1, r_2) else
  (drain_find F s_1 p_1.Thread).bind fun r_3 =>
  (bif decide (r_3 < (0 : Int)) then some (s_1, (5 : Int)) else
  (idxL s_1.Next r_3).bind fun x_1 =>
  (bif decide (p_1.Serial < x_1) then some (s_1, (4 : Int)) else
  (idxL s_1.Next r_3).bind fun x_2 =>
  (bif (p_1.Serial != (w_i64 (x_2 + p_1.Lost))) then some (s_1, (11 : Int)) else
  (drain_events F s_1.Queue).bind fun r_4 =>
  (bif decide ((w_i64 (r_4 + (((p_1.Events).length : Nat) : Int))) > (20000 : Int)) then some (s_1, (6 : Int)) else
  (slices_Clone_int_int s_1.Next).bind fun r_5 => (slices_Clone_tracebook_api_Packet_tracebook_api_Packet s_1.Queue).bind fun r_6 => (need (((r_6).length + (([p_1] : List T_api_Packet)).length) * 48 ≤ 140737488355328)).bind fun _ =>
  (drain_end p_1).bind fun r_7 => (idxL r_5 r_3).bind fun x_3 =>
  some ((⟨s_1.Threads, (r_5).set ((r_3).toNat) r_7, (r_6 ++ ([p_1] : List T_api_Packet))⟩ : T_api_Service), (0 : Int))))))))


def slices_Grow_tracebook_api_Event_tracebook_api_Event (n_1 : Int) : Option (List (T_api_Event)) :=
  (((bif decide (n_1 < (0 : Int)) then none else
  some ()) : Option Unit)).bind fun (o_1 : Unit) =>
  (bif decide ((w_i64 (n_1 - (w_i64 ((0 : Int) - ((0 : Nat) : Int))))) > (0 : Int)) then (need ((0 : Int) ≤ (w_i64 (n_1 - (w_i64 ((0 : Int) - ((0 : Nat) : Int))))) ∧ 0 < ((w_i64 (n_1 - (w_i64 ((0 : Int) - ((0 : Nat) : Int))))).toNat) ∧ ((w_i64 (n_1 - (w_i64 ((0 : Int) - ((0 : Nat) : Int))))).toNat) * 72 ≤ 140737488355328)).bind fun _ =>
  some [] else
  some [])


def slices_Concat_tracebook_api_Event_tracebook_api_Event_L1_body (F : Nat) (slices_1 : List (List (T_api_Event))) (rec : Int → Int → Option Int) (size_1 : Int) (v_1 : Int) : Option Int :=
  (bif decide (v_1 < (((slices_1).length : Nat) : Int)) then (idxL slices_1 v_1).bind fun x_1 =>
  (bif decide ((w_i64 (size_1 + (((x_1).length : Nat) : Int))) < (0 : Int)) then none else
  rec (w_i64 (size_1 + (((x_1).length : Nat) : Int))) (w_i64 (v_1 + (1 : Int)))) else
  some size_1)

def slices_Concat_tracebook_api_Event_tracebook_api_Event_L1 (F : Nat) (slices_1 : List (List (T_api_Event))) : Nat → Int → Int → Option Int
  | 0, _, _ => none
  | n + 1, size_1, v_1 => slices_Concat_tracebook_api_Event_tracebook_api_Event_L1_body F slices_1 (slices_Concat_tracebook_api_Event_tracebook_api_Event_L1 F slices_1 n) size_1 v_1

def slices_Concat_tracebook_api_Event_tracebook_api_Event_L2_body (F : Nat) (slices_1 : List (List (T_api_Event))) (rec : Int → (List T_api_Event) → Option (List T_api_Event)) (v_2 : Int) (row_1 : List T_api_Event) : Option (List T_api_Event) :=
  (bif decide (v_2 < (((slices_1).length : Nat) : Int)) then (idxL slices_1 v_2).bind fun x_2 =>
  (need (((row_1).length + (x_2).length) * 72 ≤ 140737488355328)).bind fun _ =>
  rec (w_i64 (v_2 + (1 : Int))) (row_1 ++ x_2) else
  some row_1)

def slices_Concat_tracebook_api_Event_tracebook_api_Event_L2 (F : Nat) (slices_1 : List (List (T_api_Event))) : Nat → Int → (List T_api_Event) → Option (List T_api_Event)
  | 0, _, _ => none
  | n + 1, v_2, row_1 => slices_Concat_tracebook_api_Event_tracebook_api_Event_L2_body F slices_1 (slices_Concat_tracebook_api_Event_tracebook_api_Event_L2 F slices_1 n) v_2 row_1

def slices_Concat_tracebook_api_Event_tracebook_api_Event (F : Nat) (slices_1 : List (List (T_api_Event))) : Option (List (T_api_Event)) :=
  (slices_Concat_tracebook_api_Event_tracebook_api_Event_L1 F slices_1 F (0 : Int) (0 : Int)).bind fun (o_1 : Int) =>
  (slices_Grow_tracebook_api_Event_tracebook_api_Event o_1).bind fun r_1 =>
  (slices_Concat_tracebook_api_Event_tracebook_api_Event_L2 F slices_1 F (0 : Int) r_1).bind fun (o_2 : (List T_api_Event)) =>
  some o_2


def packet_Join (F : Nat) (a_1 : T_api_Packet) (b_1 : T_api_Packet) : Option (T_api_Packet × Bool) :=
  (((packet_Check F a_1).bind fun r_1 => bif (r_1 != (0 : Int)) then ( some true) else ((packet_Check F b_1).bind fun r_2 => bif (r_2 != (0 : Int)) then ( some true) else ( bif (a_1.Thread != b_1.Thread) then ( some true) else ( bif (b_1.Lost != (0 : Int)) then ( some true) else ( some (b_1.Serial != (w_i64 (a_1.Serial + (((a_1.Events).length : Nat) : Int)))))))))).bind fun (p_1 : Bool) =>
  (bif p_1 then some ((⟨(0 : Int), (0 : Int), (0 : Int), []⟩ : T_api_Packet), false) else
  (slices_Concat_tracebook_api_Event_tracebook_api_Event F ([a_1.Events, b_1.Events] : List (List (T_api_Event)))).bind fun r_3 =>
  (((idxL b_1.Events (0 : Int)).bind fun x_1 => (idxL a_1.Events (w_i64 ((((a_1.Events).length : Nat) : Int) - (1 : Int)))).bind fun x_2 => bif decide (x_1.At < x_2.At) then ( some true) else ( some (decide ((((r_3).length : Nat) : Int) > (1000 : Int)))))).bind fun (p_2 : Bool) =>
  (bif p_2 then some ((⟨(0 : Int), (0 : Int), (0 : Int), []⟩ : T_api_Packet), false) else
  some ((⟨a_1.Thread, a_1.Serial, a_1.Lost, r_3⟩ : T_api_Packet), true)))


def drain_Flush_L2_body (F : Nat) (s_1 : T_api_Service) (x_1 : T_api_Thread) (rec : Int → (List T_api_Packet) → Option (List T_api_Packet)) (v_2 : Int) (row_2 : List T_api_Packet) : Option (List T_api_Packet) :=
  (bif decide (v_2 < (((s_1.Queue).length : Nat) : Int)) then (idxL s_1.Queue v_2).bind fun x_2 =>
  (bif (x_2.Thread != x_1.Id) then rec (w_i64 (v_2 + (1 : Int))) row_2 else
  (((bif decide ((w_i64 ((((row_2).length : Nat) : Int) - (1 : Int))) ≥ (0 : Int)) then (idxL row_2 (w_i64 ((((row_2).length : Nat) : Int) - (1 : Int)))).bind fun x_3 => (packet_Join F x_3 x_2).bind fun r_2 =>
  (bif r_2.2 then (idxL row_2 (w_i64 ((((row_2).length : Nat) : Int) - (1 : Int)))).bind fun x_4 =>
  some (.inr ((row_2).set ((w_i64 ((((row_2).length : Nat) : Int) - (1 : Int))).toNat) r_2.1)) else
  some (.inl ())) else
  some (.inl ())) : Option (Unit ⊕ (List T_api_Packet)))).bind fun (o_3 : Unit ⊕ (List T_api_Packet)) =>
  (match o_3 with
  | (.inl q_1) =>
  (need (((row_2).length + (([x_2] : List T_api_Packet)).length) * 48 ≤ 140737488355328)).bind fun _ =>
  rec (w_i64 (v_2 + (1 : Int))) (row_2 ++ ([x_2] : List T_api_Packet))
  | (.inr q_2) =>
  rec (w_i64 (v_2 + (1 : Int))) q_2)) else
  some row_2)

def drain_Flush_L2 (F : Nat) (s_1 : T_api_Service) (x_1 : T_api_Thread) : Nat → Int → (List T_api_Packet) → Option (List T_api_Packet)
  | 0, _, _ => none
  | n + 1, v_2, row_2 => drain_Flush_L2_body F s_1 x_1 (drain_Flush_L2 F s_1 x_1 n) v_2 row_2

def drain_Flush_L1_body (F : Nat) (s_1 : T_api_Service) (rec : Int → (List T_api_Packet) → Option (List T_api_Packet)) (v_1 : Int) (row_1 : List T_api_Packet) : Option (List T_api_Packet) :=
  (bif decide (v_1 < (((s_1.Threads).length : Nat) : Int)) then (idxL s_1.Threads v_1).bind fun x_1 =>
  (drain_Flush_L2 F s_1 x_1 F (0 : Int) row_1).bind fun (o_2 : (List T_api_Packet)) =>
  rec (w_i64 (v_1 + (1 : Int))) o_2 else
  some row_1)

def drain_Flush_L1 (F : Nat) (s_1 : T_api_Service) : Nat → Int → (List T_api_Packet) → Option (List T_api_Packet)
  | 0, _, _ => none
  | n + 1, v_1, row_1 => drain_Flush_L1_body F s_1 (drain_Flush_L1 F s_1 n) v_1 row_1

def drain_Flush (F : Nat) (s_1 : T_api_Service) : Option ((List (T_api_Packet)) × T_api_Service) :=
  (drain_Check F s_1).bind fun r_1 =>
  (bif (r_1 != (0 : Int)) then some ([], s_1) else
  (drain_Flush_L1 F s_1 F (0 : Int) []).bind fun (o_1 : (List T_api_Packet)) =>
  some (o_1, (⟨s_1.Threads, s_1.Next, []⟩ : T_api_Service)))


def drain_Expect (F : Nat) (s_1 : T_api_Service) (thread_1 : Int) : Option (Int × Int) :=
  (drain_Check F s_1).bind fun r_1 =>
  (bif (r_1 != (0 : Int)) then some ((0 : Int), r_1) else
  (drain_find F s_1 thread_1).bind fun r_2 =>
  (bif decide (r_2 < (0 : Int)) then some ((0 : Int), (5 : Int)) else
  (idxL s_1.Next r_2).bind fun x_1 =>
  some (x_1, (0 : Int))))


def L12_awake (F : Nat) : Option Bool :=
  (L12_two ).bind fun r_1 => (drain_New F r_1).bind fun r_2 =>
  (L12_some F (2 : Int) (0 : Int) (0 : Int) (2 : Int)).bind fun r_3 => (drain_Collect F r_2.1 r_3).bind fun r_4 =>
  (L12_some F (1 : Int) (0 : Int) (0 : Int) (1 : Int)).bind fun r_5 => (drain_Collect F r_4.1 r_5).bind fun r_6 =>
  (L12_some F (2 : Int) (2 : Int) (0 : Int) (1 : Int)).bind fun r_7 => (drain_Collect F r_6.1 r_7).bind fun r_8 =>
  (drain_Flush F r_8.1).bind fun r_9 =>
  (drain_Expect F r_9.2 (2 : Int)).bind fun r_10 =>
  (L12_some F (2 : Int) (2 : Int) (0 : Int) (1 : Int)).bind fun r_11 => (drain_Collect F r_9.2 r_11).bind fun r_12 =>
  (L12_some F (2 : Int) (5 : Int) (1 : Int) (1 : Int)).bind fun r_13 => (drain_Collect F r_9.2 r_13).bind fun r_14 =>
  (L12_some F (3 : Int) (0 : Int) (0 : Int) (1 : Int)).bind fun r_15 => (drain_Collect F r_9.2 r_15).bind fun r_16 =>
  (L12_some F (2 : Int) (5 : Int) (2 : Int) (1 : Int)).bind fun r_17 => (drain_Collect F r_9.2 r_17).bind fun r_18 =>
  (drain_Flush F r_18.1).bind fun r_19 =>
  (drain_New F []).bind fun r_20 =>
  (drain_New F ([(⟨(1 : Int), ([120] : List Int), (0 : Int)⟩ : T_api_Thread), (⟨(1 : Int), ([121] : List Int), (0 : Int)⟩ : T_api_Thread)] : List T_api_Thread)).bind fun r_21 =>
  (( bif (r_2.2 == (0 : Int)) then ( bif (r_4.2 == (0 : Int)) then ( bif (r_6.2 == (0 : Int)) then ( bif (r_8.2 == (0 : Int)) then ( bif ((((r_9.1).length : Nat) : Int) == (2 : Int)) then ((idxL r_9.1 (0 : Int)).bind fun x_1 => bif (x_1.Thread == (1 : Int)) then ((idxL r_9.1 (1 : Int)).bind fun x_2 => bif (x_2.Thread == (2 : Int)) then ((idxL r_9.1 (1 : Int)).bind fun x_3 => bif ((((x_3.Events).length : Nat) : Int) == (3 : Int)) then ( bif (r_10.1 == (3 : Int)) then ( bif (r_10.2 == (0 : Int)) then ( bif (r_12.2 == (4 : Int)) then ( bif (r_14.2 == (11 : Int)) then ( bif (r_16.2 == (5 : Int)) then ( bif (r_18.2 == (0 : Int)) then ( bif ((((r_19.1).length : Nat) : Int) == (1 : Int)) then ((idxL r_19.1 (0 : Int)).bind fun x_4 => bif (x_4.Lost == (2 : Int)) then ( bif (r_20.2 == (8 : Int)) then ( some (r_21.2 == (4 : Int))) else ( some false)) else ( some false)) else ( some false)) else ( some false)) else ( some false)) else ( some false)) else ( some false)) else ( some false)) else ( some false)) else ( some false)) else ( some false)) else ( some false)) else ( some false)) else ( some false)) else ( some false)) else ( some false)) else ( some false))).bind fun (p_1 : Bool) =>
  some p_1


def L12_small_L1_body (F : Nat) (l_1 : List (T_api_Packet)) (rec : Int → Int → Option Int) (n_1 : Int) (i_1 : Int) : Option Int :=
  (bif (decide (i_1 < (((l_1).length : Nat) : Int)) && decide (n_1 ≤ (3000 : Int))) then (idxL l_1 i_1).bind fun x_1 =>
  rec (w_i64 (n_1 + (((x_1.Events).length : Nat) : Int))) (w_i64 (i_1 + (1 : Int))) else
  some n_1)

def L12_small_L1 (F : Nat) (l_1 : List (T_api_Packet)) : Nat → Int → Int → Option Int
  | 0, _, _ => none
  | n + 1, n_1, i_1 => L12_small_L1_body F l_1 (L12_small_L1 F l_1 n) n_1 i_1

def L12_small (F : Nat) (l_1 : List (T_api_Packet)) : Option Bool :=
  (L12_small_L1 F l_1 F (((l_1).length : Nat) : Int) (0 : Int)).bind fun (o_1 : Int) =>
  some (decide (o_1 ≤ (3000 : Int)))


def L12_lost_L1_body (F : Nat) (l_1 : List (T_api_Packet)) (rec : Int → Int → Option Int) (n_1 : Int) (i_1 : Int) : Option Int :=
  (bif decide (i_1 < (((l_1).length : Nat) : Int)) then (idxL l_1 i_1).bind fun x_1 =>
  rec (w_i64 (n_1 + x_1.Lost)) (w_i64 (i_1 + (1 : Int))) else
  some n_1)

def L12_lost_L1 (F : Nat) (l_1 : List (T_api_Packet)) : Nat → Int → Int → Option Int
  | 0, _, _ => none
  | n + 1, n_1, i_1 => L12_lost_L1_body F l_1 (L12_lost_L1 F l_1 n) n_1 i_1

def L12_lost (F : Nat) (l_1 : List (T_api_Packet)) : Option Int :=
  (L12_lost_L1 F l_1 F (0 : Int) (0 : Int)).bind fun (o_1 : Int) =>
  some o_1


def L12_events_L1_body (F : Nat) (l_1 : List (T_api_Packet)) (rec : Int → Int → Option Int) (n_1 : Int) (i_1 : Int) : Option Int :=
  (bif decide (i_1 < (((l_1).length : Nat) : Int)) then (idxL l_1 i_1).bind fun x_1 =>
  rec (w_i64 (n_1 + (((x_1.Events).length : Nat) : Int))) (w_i64 (i_1 + (1 : Int))) else
  some n_1)

def L12_events_L1 (F : Nat) (l_1 : List (T_api_Packet)) : Nat → Int → Int → Option Int
  | 0, _, _ => none
  | n + 1, n_1, i_1 => L12_events_L1_body F l_1 (L12_events_L1 F l_1 n) n_1 i_1

def L12_events (F : Nat) (l_1 : List (T_api_Packet)) : Option Int :=
  (L12_events_L1 F l_1 F (0 : Int) (0 : Int)).bind fun (o_1 : Int) =>
  some o_1


def slices_Equal_string_string_L1_body (F : Nat) (s1_1 : List (List Int)) (s2_1 : List (List Int)) (rec : Int → Option (Unit ⊕ Bool)) (v_1 : Int) : Option (Unit ⊕ Bool) :=
  (bif decide (v_1 < (((s1_1).length : Nat) : Int)) then (idxL s1_1 v_1).bind fun x_1 => (idxL s2_1 v_1).bind fun x_2 =>
  (bif !(x_1 == x_2) then some (.inr false) else
  rec (w_i64 (v_1 + (1 : Int)))) else
  some (.inl ()))

def slices_Equal_string_string_L1 (F : Nat) (s1_1 : List (List Int)) (s2_1 : List (List Int)) : Nat → Int → Option (Unit ⊕ Bool)
  | 0, _ => none
  | n + 1, v_1 => slices_Equal_string_string_L1_body F s1_1 s2_1 (slices_Equal_string_string_L1 F s1_1 s2_1 n) v_1

def slices_Equal_string_string (F : Nat) (s1_1 : List (List Int)) (s2_1 : List (List Int)) : Option Bool :=
  (bif ((((s1_1).length : Nat) : Int) != (((s2_1).length : Nat) : Int)) then some false else
  (slices_Equal_string_string_L1 F s1_1 s2_1 F (0 : Int)).bind fun (o_1 : Unit ⊕ Bool) =>
  (match o_1 with
  | (.inl q_1) =>
  some true
  | (.inr q_2) =>
  some q_2))


def event_Same (F : Nat) (a_1 : T_api_Event) (b_1 : T_api_Event) : Option Bool :=
  (( bif (a_1.At == b_1.At) then ( bif (a_1.Kind == b_1.Kind) then ( bif (a_1.Name == b_1.Name) then ( bif (a_1.N == b_1.N) then ( bif (a_1.M == b_1.M) then ((slices_Equal_string_string F a_1.Stack b_1.Stack).bind fun r_1 => some r_1) else ( some false)) else ( some false)) else ( some false)) else ( some false)) else ( some false))).bind fun (p_1 : Bool) =>
  some p_1


def L12_holds_L1_body (F : Nat) (l_1 : List (T_api_Packet)) (thread_1 : Int) (serial_1 : Int) (e_1 : T_api_Event) (rec : Int → Option (Unit ⊕ Bool)) (i_1 : Int) : Option (Unit ⊕ Bool) :=
  (bif decide (i_1 < (((l_1).length : Nat) : Int)) then (idxL l_1 i_1).bind fun x_1 =>
  (((idxL l_1 i_1).bind fun x_2 => bif (x_2.Thread == thread_1) then ( bif decide ((w_i64 (serial_1 - x_1.Serial)) ≥ (0 : Int)) then ((idxL l_1 i_1).bind fun x_3 => bif decide ((w_i64 (serial_1 - x_1.Serial)) < (((x_3.Events).length : Nat) : Int)) then ((idxL l_1 i_1).bind fun x_4 => (idxL x_4.Events (w_i64 (serial_1 - x_1.Serial))).bind fun x_5 => (event_Same F x_5 e_1).bind fun r_1 => some r_1) else ( some false)) else ( some false)) else ( some false))).bind fun (p_1 : Bool) =>
  (bif p_1 then some (.inr true) else
  rec (w_i64 (i_1 + (1 : Int)))) else
  some (.inl ()))

def L12_holds_L1 (F : Nat) (l_1 : List (T_api_Packet)) (thread_1 : Int) (serial_1 : Int) (e_1 : T_api_Event) : Nat → Int → Option (Unit ⊕ Bool)
  | 0, _ => none
  | n + 1, i_1 => L12_holds_L1_body F l_1 thread_1 serial_1 e_1 (L12_holds_L1 F l_1 thread_1 serial_1 e_1 n) i_1

def L12_holds (F : Nat) (l_1 : List (T_api_Packet)) (thread_1 : Int) (serial_1 : Int) (e_1 : T_api_Event) : Option Bool :=
  (L12_holds_L1 F l_1 thread_1 serial_1 e_1 F (0 : Int)).bind fun (o_1 : Unit ⊕ Bool) =>
  (match o_1 with
  | (.inl q_1) =>
  some false
  | (.inr q_2) =>
  some q_2)


def L12_DrainKeeps_L1_body (F : Nat) (l_1 : List (T_api_Packet)) (rec : Int → (List T_api_Thread) → (List Int) → (List T_api_Packet) → (List T_api_Packet) → Option ((List T_api_Thread) × (List Int) × (List T_api_Packet) × (List T_api_Packet))) (i_1 : Int) (c_1 : List T_api_Thread) (c_2 : List Int) (c_3 : List T_api_Packet) (row_1 : List T_api_Packet) : Option ((List T_api_Thread) × (List Int) × (List T_api_Packet) × (List T_api_Packet)) :=
  (bif decide (i_1 < (((l_1).length : Nat) : Int)) then (((idxL l_1 i_1).bind fun x_1 => (drain_Collect F (⟨c_1, c_2, c_3⟩ : T_api_Service) x_1).bind fun r_5 =>
  (bif (r_5.2 == (0 : Int)) then (idxL l_1 i_1).bind fun x_2 => (need (((row_1).length + (([x_2] : List T_api_Packet)).length) * 48 ≤ 140737488355328)).bind fun _ =>
  some (r_5.1.Threads, r_5.1.Next, r_5.1.Queue, (row_1 ++ ([x_2] : List T_api_Packet))) else
  some (c_1, c_2, c_3, row_1)) : Option ((List T_api_Thread) × (List Int) × (List T_api_Packet) × (List T_api_Packet)))).bind fun (o_2 : ((List T_api_Thread) × (List Int) × (List T_api_Packet) × (List T_api_Packet))) =>
  rec (w_i64 (i_1 + (1 : Int))) o_2.1 o_2.2.1 o_2.2.2.1 o_2.2.2.2 else
  some (c_1, c_2, c_3, row_1))

def L12_DrainKeeps_L1 (F : Nat) (l_1 : List (T_api_Packet)) : Nat → Int → (List T_api_Thread) → (List Int) → (List T_api_Packet) → (List T_api_Packet) → Option ((List T_api_Thread) × (List Int) × (List T_api_Packet) × (List T_api_Packet))
  | 0, _, _, _, _, _ => none
  | n + 1, i_1, c_1, c_2, c_3, row_1 => L12_DrainKeeps_L1_body F l_1 (L12_DrainKeeps_L1 F l_1 n) i_1 c_1 c_2 c_3 row_1

def L12_DrainKeeps_L3_body (F : Nat) (o_1 : ((List T_api_Thread) × (List Int) × (List T_api_Packet) × (List T_api_Packet))) (r_6 : (List (T_api_Packet)) × T_api_Service) (i_2 : Int) (rec : Int → Option (Unit ⊕ Bool)) (k_1 : Int) : Option (Unit ⊕ Bool) :=
  (idxL o_1.2.2.2 i_2).bind fun x_3 =>
  (bif decide (k_1 < (((x_3.Events).length : Nat) : Int)) then (idxL o_1.2.2.2 i_2).bind fun x_4 => (idxL o_1.2.2.2 i_2).bind fun x_5 => (idxL o_1.2.2.2 i_2).bind fun x_6 => (idxL x_6.Events k_1).bind fun x_7 => (L12_holds F r_6.1 x_4.Thread (w_i64 (x_5.Serial + k_1)) x_7).bind fun r_13 =>
  (bif !r_13 then some (.inr false) else
  rec (w_i64 (k_1 + (1 : Int)))) else
  some (.inl ()))

def L12_DrainKeeps_L3 (F : Nat) (o_1 : ((List T_api_Thread) × (List Int) × (List T_api_Packet) × (List T_api_Packet))) (r_6 : (List (T_api_Packet)) × T_api_Service) (i_2 : Int) : Nat → Int → Option (Unit ⊕ Bool)
  | 0, _ => none
  | n + 1, k_1 => L12_DrainKeeps_L3_body F o_1 r_6 i_2 (L12_DrainKeeps_L3 F o_1 r_6 i_2 n) k_1

def L12_DrainKeeps_L2_body (F : Nat) (o_1 : ((List T_api_Thread) × (List Int) × (List T_api_Packet) × (List T_api_Packet))) (r_6 : (List (T_api_Packet)) × T_api_Service) (rec : Int → Option (Unit ⊕ Bool)) (i_2 : Int) : Option (Unit ⊕ Bool) :=
  (bif decide (i_2 < (((o_1.2.2.2).length : Nat) : Int)) then (L12_DrainKeeps_L3 F o_1 r_6 i_2 F (0 : Int)).bind fun (o_4 : Unit ⊕ Bool) =>
  (match o_4 with
  | (.inl q_1) =>
  rec (w_i64 (i_2 + (1 : Int)))
  | (.inr q_2) =>
  some (.inr q_2)) else
  some (.inl ()))

def L12_DrainKeeps_L2 (F : Nat) (o_1 : ((List T_api_Thread) × (List Int) × (List T_api_Packet) × (List T_api_Packet))) (r_6 : (List (T_api_Packet)) × T_api_Service) : Nat → Int → Option (Unit ⊕ Bool)
  | 0, _ => none
  | n + 1, i_2 => L12_DrainKeeps_L2_body F o_1 r_6 (L12_DrainKeeps_L2 F o_1 r_6 n) i_2

def L12_DrainKeeps_L4_body (F : Nat) (r_6 : (List (T_api_Packet)) × T_api_Service) (rec : Int → Option (Unit ⊕ Bool)) (i_3 : Int) : Option (Unit ⊕ Bool) :=
  (bif decide (i_3 < (((r_6.1).length : Nat) : Int)) then (idxL r_6.1 (w_i64 (i_3 - (1 : Int)))).bind fun x_8 => (idxL r_6.1 i_3).bind fun x_9 => (packet_Join F x_8 x_9).bind fun r_14 =>
  (bif r_14.2 then some (.inr false) else
  rec (w_i64 (i_3 + (1 : Int)))) else
  some (.inl ()))

def L12_DrainKeeps_L4 (F : Nat) (r_6 : (List (T_api_Packet)) × T_api_Service) : Nat → Int → Option (Unit ⊕ Bool)
  | 0, _ => none
  | n + 1, i_3 => L12_DrainKeeps_L4_body F r_6 (L12_DrainKeeps_L4 F r_6 n) i_3

def L12_DrainKeeps (F : Nat) (threads_1 : List (T_api_Thread)) (l_1 : List (T_api_Packet)) : Option Bool :=
  (( bif decide ((((threads_1).length : Nat) : Int) > (70 : Int)) then ( some true) else ((L12_small F l_1).bind fun r_1 => some (!r_1)))).bind fun (p_1 : Bool) =>
  (bif p_1 then (L12_awake F).bind fun r_2 =>
  some r_2 else
  (drain_New F threads_1).bind fun r_3 =>
  (bif (r_3.2 != (0 : Int)) then (L12_awake F).bind fun r_4 =>
  some r_4 else
  (L12_DrainKeeps_L1 F l_1 F (0 : Int) r_3.1.Threads r_3.1.Next r_3.1.Queue []).bind fun (o_1 : ((List T_api_Thread) × (List Int) × (List T_api_Packet) × (List T_api_Packet))) =>
  (drain_Flush F (⟨o_1.1, o_1.2.1, o_1.2.2.1⟩ : T_api_Service)).bind fun r_6 =>
  (drain_Flush F r_6.2).bind fun r_7 =>
  (( bif ((((r_7.1).length : Nat) : Int) != (0 : Int)) then ( some true) else ((drain_Check F r_6.2).bind fun r_8 => bif (r_8 != (0 : Int)) then ( some true) else ((L12_lost F r_6.1).bind fun r_9 => (L12_lost F o_1.2.2.2).bind fun r_10 => bif (r_9 != r_10) then ( some true) else ((L12_events F r_6.1).bind fun r_11 => (L12_events F o_1.2.2.2).bind fun r_12 => some (r_11 != r_12)))))).bind fun (p_2 : Bool) =>
  (bif p_2 then some false else
  (L12_DrainKeeps_L2 F o_1 r_6 F (0 : Int)).bind fun (o_3 : Unit ⊕ Bool) =>
  (match o_3 with
  | (.inl q_3) =>
  (L12_DrainKeeps_L4 F r_6 F (1 : Int)).bind fun (o_5 : Unit ⊕ Bool) =>
  (match o_5 with
  | (.inl q_5) =>
  (L12_awake F).bind fun r_15 =>
  some r_15
  | (.inr q_6) =>
  some q_6)
  | (.inr q_4) =>
  some q_4))))


end Go.Ab
