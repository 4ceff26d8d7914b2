/- Printed: the typed Lean functions of the Go functions, or the proofs that the Go functions meet them. No conditions but those that the theorems name. -/
import Derived.Test.YtldkljbmhfiboaaA37
import Derived.Test.YtldkljbmhfiboaaA42
namespace Go.Ab
open Go
set_option linter.unusedVariables false

structure T_api_Ring where
  Policy : Int
  Data : List (Int)
  Start : Int
  End : Int
  First : Int
  Next : Int
  deriving DecidableEq, Inhabited
def v_T_api_Ring (s : T_api_Ring) : List AV := [.int .i64 s.Policy, .sl false 1 (List.map (AV.int .u8) s.Data), .int .i64 s.Start, .int .i64 s.End, .int .i64 s.First, .int .i64 s.Next]
def e_T_api_Ring (s : T_api_Ring) : AV := .agg (v_T_api_Ring s)

def ring_New (size_1 : Int) (p_1 : Int) : Option (T_api_Ring × Int) :=
  (bif (decide (size_1 < (16 : Int)) || decide (size_1 > (65536 : Int))) then some ((⟨(0 : Int), [], (0 : Int), (0 : Int), (0 : Int), (0 : Int)⟩ : T_api_Ring), (2 : Int)) else
  (bif ((p_1 != (1 : Int)) && (p_1 != (2 : Int))) then some ((⟨(0 : Int), [], (0 : Int), (0 : Int), (0 : Int), (0 : Int)⟩ : T_api_Ring), (1 : Int)) else
  (need ((0 : Int) ≤ size_1 ∧ ((size_1).toNat) * 1 ≤ 281474976710656)).bind fun _ =>
  some ((⟨p_1, (List.replicate ((size_1).toNat) (0 : Int)), (0 : Int), (0 : Int), (0 : Int), (0 : Int)⟩ : T_api_Ring), (0 : Int))))


def R09_New (size_1 : Int) (p_1 : Int) : Option (T_api_Ring × Int) :=
  (bif (decide (size_1 < (16 : Int)) || decide (size_1 > (65536 : Int))) then some ((⟨(0 : Int), [], (0 : Int), (0 : Int), (0 : Int), (0 : Int)⟩ : T_api_Ring), (2 : Int)) else
  (bif ((p_1 != (1 : Int)) && (p_1 != (2 : Int))) then some ((⟨(0 : Int), [], (0 : Int), (0 : Int), (0 : Int), (0 : Int)⟩ : T_api_Ring), (1 : Int)) else
  (need ((0 : Int) ≤ size_1 ∧ ((size_1).toNat) * 1 ≤ 281474976710656)).bind fun _ =>
  some ((⟨p_1, (List.replicate ((size_1).toNat) (0 : Int)), (0 : Int), (0 : Int), (0 : Int), (0 : Int)⟩ : T_api_Ring), (0 : Int))))


def ring_contents (r_1 : T_api_Ring) : Option (List (Int)) :=
  (need ((0 : Int) ≤ (w_i64 (r_1.End - r_1.Start)) ∧ ((w_i64 (r_1.End - r_1.Start)).toNat) * 1 ≤ 281474976710656)).bind fun _ =>
  (need ((((r_1.Data).length : Nat) : Int) ≠ (0 : Int))).bind fun _ =>
  (need ((0 : Int) ≤ (irem r_1.Start (((r_1.Data).length : Nat) : Int)) ∧ (irem r_1.Start (((r_1.Data).length : Nat) : Int)) ≤ (((r_1.Data).length : Nat) : Int))).bind fun _ => (need (0 ≤ ((w_i64 (r_1.End - r_1.Start)).toNat) ∧ ((w_i64 (r_1.End - r_1.Start)).toNat) ≤ ((List.replicate ((w_i64 (r_1.End - r_1.Start)).toNat) (0 : Int))).length)).bind fun _ =>
  (need ((((min (sub r_1.Data (irem r_1.Start (((r_1.Data).length : Nat) : Int)) (((r_1.Data).length : Nat) : Int)).length ((w_i64 (r_1.End - r_1.Start)).toNat - 0)) : Nat) : Int) ≤ (((w_i64 (r_1.End - r_1.Start)).toNat : Nat) : Int))).bind fun _ => (need ((min (sub r_1.Data (irem r_1.Start (((r_1.Data).length : Nat) : Int)) (((r_1.Data).length : Nat) : Int)).length ((w_i64 (r_1.End - r_1.Start)).toNat - 0)) ≤ ((w_i64 (r_1.End - r_1.Start)).toNat) ∧ ((w_i64 (r_1.End - r_1.Start)).toNat) ≤ ((cpy (List.replicate ((w_i64 (r_1.End - r_1.Start)).toNat) (0 : Int)) 0 ((w_i64 (r_1.End - r_1.Start)).toNat) (sub r_1.Data (irem r_1.Start (((r_1.Data).length : Nat) : Int)) (((r_1.Data).length : Nat) : Int)))).length)).bind fun _ =>
  some (cpy (cpy (List.replicate ((w_i64 (r_1.End - r_1.Start)).toNat) (0 : Int)) 0 ((w_i64 (r_1.End - r_1.Start)).toNat) (sub r_1.Data (irem r_1.Start (((r_1.Data).length : Nat) : Int)) (((r_1.Data).length : Nat) : Int))) (min (sub r_1.Data (irem r_1.Start (((r_1.Data).length : Nat) : Int)) (((r_1.Data).length : Nat) : Int)).length ((w_i64 (r_1.End - r_1.Start)).toNat - 0)) ((w_i64 (r_1.End - r_1.Start)).toNat) r_1.Data)


def codec_integer (u_1 : Int) : Option Int :=
  some (ixor .i64 (w_i64 (ishr .u64 u_1 (1 : Int))) (w_i64 (0 - (w_i64 (iand .u64 u_1 (1 : Int))))))


def codec_Int_L1_body (F : Nat) (b_1 : List (Int)) (rec : Int → Int → Option (Unit ⊕ (Int × Int × Int))) (u_1 : Int) (v_1 : Int) : Option (Unit ⊕ (Int × Int × Int)) :=
  (bif decide (v_1 < (((b_1).length : Nat) : Int)) then (idxL b_1 v_1).bind fun x_1 =>
  (bif ((v_1 == (9 : Int)) && decide (x_1 > (1 : Int))) then some (.inr ((0 : Int), (0 : Int), (10 : Int))) else
  (need ((0 : Int) ≤ (w_i64 ((7 : Int) * v_1)))).bind fun _ =>
  (bif decide (x_1 ≥ (128 : Int)) then rec (ior .u64 u_1 (ishl .u64 (w_u64 (iand .u8 x_1 (127 : Int))) (w_i64 ((7 : Int) * v_1)))) (w_i64 (v_1 + (1 : Int))) else
  (bif ((x_1 == (0 : Int)) && decide (v_1 > (0 : Int))) then some (.inr ((0 : Int), (0 : Int), (10 : Int))) else
  (codec_integer (ior .u64 u_1 (ishl .u64 (w_u64 (iand .u8 x_1 (127 : Int))) (w_i64 ((7 : Int) * v_1))))).bind fun r_1 =>
  some (.inr (r_1, w_i64 (v_1 + (1 : Int)), (0 : Int)))))) else
  some (.inl ()))

def codec_Int_L1 (F : Nat) (b_1 : List (Int)) : Nat → Int → Int → Option (Unit ⊕ (Int × Int × Int))
  | 0, _, _ => none
  | n + 1, u_1, v_1 => codec_Int_L1_body F b_1 (codec_Int_L1 F b_1 n) u_1 v_1

def codec_Int (F : Nat) (b_1 : List (Int)) : Option (Int × Int × Int) :=
  (codec_Int_L1 F b_1 F (0 : Int) (0 : Int)).bind fun (o_1 : Unit ⊕ (Int × Int × Int)) =>
  (match o_1 with
  | (.inl q_1) =>
  some ((0 : Int), (0 : Int), (8 : Int))
  | (.inr q_2) =>
  some q_2)


def ring_split_L1_body (F : Nat) (rec : (List Int) → (List (List (Int))) → Option ((List (List (Int))) ⊕ ((List (List (Int))) × Bool))) (b_2 : List Int) (row_1 : List (List (Int))) : Option ((List (List (Int))) ⊕ ((List (List (Int))) × Bool)) :=
  (bif decide ((((b_2).length : Nat) : Int) > (0 : Int)) then (codec_Int F b_2).bind fun r_1 =>
  (bif ((r_1.2.2 != (0 : Int)) || (decide (r_1.1 < (0 : Int)) || (decide (r_1.1 > (2000 : Int)) || decide ((w_i64 (r_1.2.1 + r_1.1)) > (((b_2).length : Nat) : Int))))) then some (.inr ([], false)) else
  (need ((0 : Int) ≤ r_1.2.1 ∧ r_1.2.1 ≤ (w_i64 (r_1.2.1 + r_1.1)) ∧ (w_i64 (r_1.2.1 + r_1.1)) ≤ (((b_2).length : Nat) : Int))).bind fun _ => (need (((row_1).length + (([sub b_2 r_1.2.1 (w_i64 (r_1.2.1 + r_1.1))] : List (List (Int)))).length) * 24 ≤ 140737488355328)).bind fun _ =>
  (need ((0 : Int) ≤ (w_i64 (r_1.2.1 + r_1.1)) ∧ (w_i64 (r_1.2.1 + r_1.1)) ≤ (((b_2).length : Nat) : Int))).bind fun _ =>
  rec (sub b_2 (w_i64 (r_1.2.1 + r_1.1)) (((b_2).length : Nat) : Int)) (row_1 ++ ([sub b_2 r_1.2.1 (w_i64 (r_1.2.1 + r_1.1))] : List (List (Int))))) else
  some (.inl row_1))

def ring_split_L1 (F : Nat) : Nat → (List Int) → (List (List (Int))) → Option ((List (List (Int))) ⊕ ((List (List (Int))) × Bool))
  | 0, _, _ => none
  | n + 1, b_2, row_1 => ring_split_L1_body F (ring_split_L1 F n) b_2 row_1

def ring_split (F : Nat) (b_1 : List (Int)) : Option ((List (List (Int))) × Bool) :=
  (ring_split_L1 F F b_1 []).bind fun (o_1 : (List (List (Int))) ⊕ ((List (List (Int))) × Bool)) =>
  (match o_1 with
  | (.inl q_1) =>
  some (q_1, true)
  | (.inr q_2) =>
  some q_2)


def ring_read (F : Nat) (r_1 : T_api_Ring) : Option ((List (List (Int))) × Int) :=
  (((bif ((r_1.Policy != (1 : Int)) && (r_1.Policy != (2 : Int))) then some (.inr ([], (1 : Int))) else
  (bif (decide ((((r_1.Data).length : Nat) : Int) < (16 : Int)) || decide ((((r_1.Data).length : Nat) : Int) > (65536 : Int))) then some (.inr ([], (2 : Int))) else
  (bif decide (r_1.Start < (0 : Int)) then some (.inr ([], (2 : Int))) else
  (bif decide (r_1.End < r_1.Start) then some (.inr ([], (2 : Int))) else
  (bif decide (r_1.End > (1000000000000000 : Int)) then some (.inr ([], (2 : Int))) else
  (bif decide ((w_i64 (r_1.End - r_1.Start)) > (((r_1.Data).length : Nat) : Int)) then some (.inr ([], (2 : Int))) else
  (bif decide (r_1.First < (0 : Int)) then some (.inr ([], (2 : Int))) else
  (bif decide (r_1.Next < r_1.First) then some (.inr ([], (2 : Int))) else
  (bif decide (r_1.Next > (1000000000000000 : Int)) then some (.inr ([], (2 : Int))) else
  some (.inl ())))))))))) : Option (Unit ⊕ ((List (List (Int))) × Int)))).bind fun (o_1 : Unit ⊕ ((List (List (Int))) × Int)) =>
  (match o_1 with
  | (.inl q_1) =>
  (ring_contents r_1).bind fun r_2 => (ring_split F r_2).bind fun r_3 =>
  (bif (!r_3.2 || ((((r_3.1).length : Nat) : Int) != (w_i64 (r_1.Next - r_1.First)))) then some ([], (10 : Int)) else
  some (r_3.1, (0 : Int)))
  | (.inr q_2) =>
  some q_2)


def codec_number (n_1 : Int) : Option Int :=
  some (ixor .u64 (ishl .u64 (w_u64 n_1) (1 : Int)) (w_u64 (ishr .i64 n_1 (63 : Int))))


def codec_PutInt_L1_body (F : Nat) (rec : Int → Int → (List Int) → Option (Int × (List Int))) (size_1 : Int) (u_1 : Int) (row_1 : List Int) : Option (Int × (List Int)) :=
  (need ((0 : Int) ≤ size_1 ∧ size_1 < ((10 : Nat) : Int))).bind fun _ => ((row_1)[(size_1).toNat]?).bind fun x_1 =>
  (bif decide (u_1 < (128 : Int)) then some (w_i64 (size_1 + (1 : Int)), (row_1).set ((size_1).toNat) (w_u8 (iand .u64 u_1 (127 : Int)))) else
  (need ((0 : Int) ≤ (w_i64 ((w_i64 (size_1 + (1 : Int))) - (1 : Int))) ∧ (w_i64 ((w_i64 (size_1 + (1 : Int))) - (1 : Int))) < ((10 : Nat) : Int))).bind fun _ => (((row_1).set ((size_1).toNat) (w_u8 (iand .u64 u_1 (127 : Int))))[(w_i64 ((w_i64 (size_1 + (1 : Int))) - (1 : Int))).toNat]?).bind fun x_2 => (need ((0 : Int) ≤ (w_i64 ((w_i64 (size_1 + (1 : Int))) - (1 : Int))) ∧ (w_i64 ((w_i64 (size_1 + (1 : Int))) - (1 : Int))) < ((10 : Nat) : Int))).bind fun _ => (((row_1).set ((size_1).toNat) (w_u8 (iand .u64 u_1 (127 : Int))))[(w_i64 ((w_i64 (size_1 + (1 : Int))) - (1 : Int))).toNat]?).bind fun x_3 =>
  rec (w_i64 (size_1 + (1 : Int))) (ishr .u64 u_1 (7 : Int)) (((row_1).set ((size_1).toNat) (w_u8 (iand .u64 u_1 (127 : Int)))).set ((w_i64 ((w_i64 (size_1 + (1 : Int))) - (1 : Int))).toNat) (ior .u8 x_2 (128 : Int))))

def codec_PutInt_L1 (F : Nat) : Nat → Int → Int → (List Int) → Option (Int × (List Int))
  | 0, _, _, _ => none
  | n + 1, size_1, u_1, row_1 => codec_PutInt_L1_body F (codec_PutInt_L1 F n) size_1 u_1 row_1

def codec_PutInt (F : Nat) (b_1 : List (Int)) (n_1 : Int) : Option (List (Int)) :=
  (codec_number n_1).bind fun r_1 =>
  (codec_PutInt_L1 F F (0 : Int) r_1 (List.replicate 10 (0 : Int))).bind fun (o_1 : (Int × (List Int))) =>
  (need ((0 : Int) ≤ o_1.1 ∧ o_1.1 ≤ ((10 : Nat) : Int) ∧ 10 ≤ (o_1.2).length)).bind fun _ => (need (0 ≤ ((o_1.1).toNat) ∧ ((o_1.1).toNat) ≤ (o_1.2).length)).bind fun _ => (need (((sub b_1 (0 : Int) (((b_1).length : Nat) : Int)).length + (((o_1.2).take ((o_1.1).toNat)).drop 0).length) * 1 ≤ 140737488355328)).bind fun _ => (need (0 < (((o_1.2).take ((o_1.1).toNat)).drop 0).length ∨ (sub b_1 (0 : Int) (((b_1).length : Nat) : Int)).length = 0)).bind fun _ =>
  some ((sub b_1 (0 : Int) (((b_1).length : Nat) : Int)) ++ (((o_1.2).take ((o_1.1).toNat)).drop 0))


def slices_Clone_byte_byte (s_1 : List (Int)) : Option (List (Int)) :=
  (need (((([] : List Int)).length + (s_1).length) * 1 ≤ 140737488355328)).bind fun _ =>
  some ([] ++ s_1)


def ring_Put_L1_body (F : Nat) (b_1 : List (Int)) (r_2 : (List (List (Int))) × Int) (r_3 : (List (Int))) (rec : Int → Int → Int → Option (Int × Int)) (room_1 : Int) (lost_1 : Int) (c_1 : Int) : Option (Int × Int) :=
  (bif decide (((((r_3 ++ b_1)).length : Nat) : Int) > room_1) then (idxL r_2.1 lost_1).bind fun x_1 => (codec_PutInt F [] (((x_1).length : Nat) : Int)).bind fun r_4 => (idxL r_2.1 lost_1).bind fun x_2 =>
  rec (w_i64 (room_1 + (w_i64 ((((r_4).length : Nat) : Int) + (((x_2).length : Nat) : Int))))) (w_i64 (lost_1 + (1 : Int))) (w_i64 (c_1 + (w_i64 ((((r_4).length : Nat) : Int) + (((x_2).length : Nat) : Int))))) else
  some (lost_1, c_1))

def ring_Put_L1 (F : Nat) (b_1 : List (Int)) (r_2 : (List (List (Int))) × Int) (r_3 : (List (Int))) : Nat → Int → Int → Int → Option (Int × Int)
  | 0, _, _, _ => none
  | n + 1, room_1, lost_1, c_1 => ring_Put_L1_body F b_1 r_2 r_3 (ring_Put_L1 F b_1 r_2 r_3 n) room_1 lost_1 c_1

def ring_Put (F : Nat) (r_1 : T_api_Ring) (b_1 : List (Int)) : Option (T_api_Ring × Int × Int) :=
  (ring_read F r_1).bind fun r_2 =>
  (bif (r_2.2 != (0 : Int)) then some (r_1, (0 : Int), r_2.2) else
  (codec_PutInt F [] (((b_1).length : Nat) : Int)).bind fun r_3 => (need (((r_3).length + (b_1).length) * 1 ≤ 140737488355328)).bind fun _ =>
  (bif (decide ((((b_1).length : Nat) : Int) > (2000 : Int)) || decide (((((r_3 ++ b_1)).length : Nat) : Int) > (((r_1.Data).length : Nat) : Int))) then some (r_1, (0 : Int), (7 : Int)) else
  (bif ((r_1.Policy == (2 : Int)) && decide (((((r_3 ++ b_1)).length : Nat) : Int) > (w_i64 ((((r_1.Data).length : Nat) : Int) - (w_i64 (r_1.End - r_1.Start)))))) then some (r_1, (0 : Int), (6 : Int)) else
  (bif (decide ((w_i64 (r_1.End + ((((r_3 ++ b_1)).length : Nat) : Int))) > (1000000000000000 : Int)) || decide (r_1.Next ≥ (1000000000000000 : Int))) then some (r_1, (0 : Int), (2 : Int)) else
  (ring_Put_L1 F b_1 r_2 r_3 F (w_i64 ((((r_1.Data).length : Nat) : Int) - (w_i64 (r_1.End - r_1.Start)))) (0 : Int) r_1.Start).bind fun (o_1 : (Int × Int)) =>
  (slices_Clone_byte_byte r_1.Data).bind fun r_5 =>
  (need ((((r_5).length : Nat) : Int) ≠ (0 : Int))).bind fun _ => (need ((0 : Int) ≤ (irem r_1.End (((r_5).length : Nat) : Int)) ∧ (irem r_1.End (((r_5).length : Nat) : Int)) ≤ (((r_5).length : Nat) : Int))).bind fun _ => (need (((irem r_1.End (((r_5).length : Nat) : Int)).toNat) ≤ ((r_5).length) ∧ ((r_5).length) ≤ (r_5).length)).bind fun _ =>
  (need ((((min ((r_3 ++ b_1)).length ((r_5).length - (irem r_1.End (((r_5).length : Nat) : Int)).toNat)) : Nat) : Int) ≤ ((((r_3 ++ b_1)).length : Nat) : Int))).bind fun _ => (need ((min ((r_3 ++ b_1)).length ((r_5).length - (irem r_1.End (((r_5).length : Nat) : Int)).toNat)) ≤ (((r_3 ++ b_1)).length) ∧ (((r_3 ++ b_1)).length) ≤ ((r_3 ++ b_1)).length)).bind fun _ => (need (0 ≤ ((r_5).length) ∧ ((r_5).length) ≤ ((cpy r_5 ((irem r_1.End (((r_5).length : Nat) : Int)).toNat) ((r_5).length) (r_3 ++ b_1))).length)).bind fun _ =>
  some ((⟨r_1.Policy, (cpy (cpy r_5 ((irem r_1.End (((r_5).length : Nat) : Int)).toNat) ((r_5).length) (r_3 ++ b_1)) 0 ((r_5).length) ((((r_3 ++ b_1)).take (((r_3 ++ b_1)).length)).drop (min ((r_3 ++ b_1)).length ((r_5).length - (irem r_1.End (((r_5).length : Nat) : Int)).toNat)))), o_1.2, w_i64 (r_1.End + ((((r_3 ++ b_1)).length : Nat) : Int)), w_i64 (r_1.First + o_1.1), w_i64 (r_1.Next + (1 : Int))⟩ : T_api_Ring), o_1.1, (0 : Int))))))


def ring_Check (F : Nat) (r_1 : T_api_Ring) : Option Int :=
  (ring_read F r_1).bind fun r_2 =>
  some r_2.2


def ring_Free (F : Nat) (r_1 : T_api_Ring) : Option Int :=
  (ring_Check F r_1).bind fun r_2 =>
  (bif (r_2 != (0 : Int)) then some (0 : Int) else
  some (w_i64 ((((r_1.Data).length : Nat) : Int) - (w_i64 (r_1.End - r_1.Start)))))


def ring_Take (F : Nat) (r_1 : T_api_Ring) : Option ((List (List (Int))) × T_api_Ring) :=
  (ring_read F r_1).bind fun r_2 =>
  (bif (r_2.2 != (0 : Int)) then some ([], r_1) else
  some (r_2.1, (⟨r_1.Policy, r_1.Data, r_1.End, r_1.End, r_1.Next, r_1.Next⟩ : T_api_Ring)))


def ring_Count (F : Nat) (r_1 : T_api_Ring) : Option Int :=
  (ring_Check F r_1).bind fun r_2 =>
  (bif (r_2 != (0 : Int)) then some (0 : Int) else
  some (w_i64 (r_1.Next - r_1.First)))


def R09_Contents_L1_body (F : Nat) (r_1 : T_api_Ring) (rec : Int → (List Int) → Option (List Int)) (p_1 : Int) (row_1 : List Int) : Option (List Int) :=
  (bif decide (p_1 < r_1.End) then (need ((((r_1.Data).length : Nat) : Int) ≠ (0 : Int))).bind fun _ => (idxL r_1.Data (irem p_1 (((r_1.Data).length : Nat) : Int))).bind fun x_1 => (need (((row_1).length + (([x_1] : List Int)).length) * 1 ≤ 140737488355328)).bind fun _ =>
  rec (w_i64 (p_1 + (1 : Int))) (row_1 ++ ([x_1] : List Int)) else
  some row_1)

def R09_Contents_L1 (F : Nat) (r_1 : T_api_Ring) : Nat → Int → (List Int) → Option (List Int)
  | 0, _, _ => none
  | n + 1, p_1, row_1 => R09_Contents_L1_body F r_1 (R09_Contents_L1 F r_1 n) p_1 row_1

def R09_Contents (F : Nat) (r_1 : T_api_Ring) : Option (List (Int)) :=
  (R09_Contents_L1 F r_1 F r_1.Start []).bind fun (o_1 : (List Int)) =>
  some o_1


def R05_integer (u_1 : Int) : Option Int :=
  (bif ((irem u_1 (2 : Int)) == (1 : Int)) then some (w_i64 ((w_i64 (0 - (w_i64 (iquo .u64 u_1 (2 : Int))))) - (1 : Int))) else
  some (w_i64 (iquo .u64 u_1 (2 : Int))))


def R05_Int_L1_body (F : Nat) (b_1 : List (Int)) (rec : Int → Int → Int → Option (Unit ⊕ (Int × Int × Int))) (u_1 : Int) (unit_1 : Int) (i_1 : Int) : Option (Unit ⊕ (Int × Int × Int)) :=
  (bif decide (i_1 < (10 : Int)) then (bif decide (i_1 ≥ (((b_1).length : Nat) : Int)) then some (.inr ((0 : Int), (0 : Int), (8 : Int))) else
  (idxL b_1 i_1).bind fun x_1 =>
  (bif ((i_1 == (9 : Int)) && decide ((w_u64 x_1) > (1 : Int))) then some (.inr ((0 : Int), (0 : Int), (10 : Int))) else
  (bif (decide ((w_u64 x_1) < (128 : Int)) && (((w_u64 x_1) == (0 : Int)) && decide (i_1 > (0 : Int)))) then some (.inr ((0 : Int), (0 : Int), (10 : Int))) else
  (bif decide ((w_u64 x_1) < (128 : Int)) then (R05_integer (w_u64 (u_1 + (w_u64 ((irem (w_u64 x_1) (128 : Int)) * unit_1))))).bind fun r_1 =>
  some (.inr (r_1, w_i64 (i_1 + (1 : Int)), (0 : Int))) else
  rec (w_u64 (u_1 + (w_u64 ((irem (w_u64 x_1) (128 : Int)) * unit_1)))) (w_u64 (unit_1 * (128 : Int))) (w_i64 (i_1 + (1 : Int))))))) else
  some (.inl ()))

def R05_Int_L1 (F : Nat) (b_1 : List (Int)) : Nat → Int → Int → Int → Option (Unit ⊕ (Int × Int × Int))
  | 0, _, _, _ => none
  | n + 1, u_1, unit_1, i_1 => R05_Int_L1_body F b_1 (R05_Int_L1 F b_1 n) u_1 unit_1 i_1

def R05_Int (F : Nat) (b_1 : List (Int)) : Option (Int × Int × Int) :=
  (R05_Int_L1 F b_1 F (0 : Int) (1 : Int) (0 : Int)).bind fun (o_1 : Unit ⊕ (Int × Int × Int)) =>
  (match o_1 with
  | (.inl q_1) =>
  some ((0 : Int), (0 : Int), (10 : Int))
  | (.inr q_2) =>
  some q_2)


def R09_Records_L1_body (F : Nat) (rec : (List Int) → (List (List (Int))) → Option ((List (List (Int))) ⊕ ((List (List (Int))) × Bool))) (b_2 : List Int) (row_1 : List (List (Int))) : Option ((List (List (Int))) ⊕ ((List (List (Int))) × Bool)) :=
  (bif decide ((((b_2).length : Nat) : Int) > (0 : Int)) then (R05_Int F b_2).bind fun r_1 =>
  (bif ((r_1.2.2 != (0 : Int)) || (decide (r_1.1 < (0 : Int)) || (decide (r_1.1 > (2000 : Int)) || decide (r_1.1 > (w_i64 ((((b_2).length : Nat) : Int) - r_1.2.1)))))) then some (.inr ([], false)) else
  (need ((0 : Int) ≤ r_1.2.1 ∧ r_1.2.1 ≤ (w_i64 (r_1.2.1 + r_1.1)) ∧ (w_i64 (r_1.2.1 + r_1.1)) ≤ (((b_2).length : Nat) : Int))).bind fun _ => (need (((row_1).length + (([sub b_2 r_1.2.1 (w_i64 (r_1.2.1 + r_1.1))] : List (List (Int)))).length) * 24 ≤ 140737488355328)).bind fun _ =>
  (need ((0 : Int) ≤ (w_i64 (r_1.2.1 + r_1.1)) ∧ (w_i64 (r_1.2.1 + r_1.1)) ≤ (((b_2).length : Nat) : Int))).bind fun _ =>
  rec (sub b_2 (w_i64 (r_1.2.1 + r_1.1)) (((b_2).length : Nat) : Int)) (row_1 ++ ([sub b_2 r_1.2.1 (w_i64 (r_1.2.1 + r_1.1))] : List (List (Int))))) else
  some (.inl row_1))

def R09_Records_L1 (F : Nat) : Nat → (List Int) → (List (List (Int))) → Option ((List (List (Int))) ⊕ ((List (List (Int))) × Bool))
  | 0, _, _ => none
  | n + 1, b_2, row_1 => R09_Records_L1_body F (R09_Records_L1 F n) b_2 row_1

def R09_Records (F : Nat) (b_1 : List (Int)) : Option ((List (List (Int))) × Bool) :=
  (R09_Records_L1 F F b_1 []).bind fun (o_1 : (List (List (Int))) ⊕ ((List (List (Int))) × Bool)) =>
  (match o_1 with
  | (.inl q_1) =>
  some (q_1, true)
  | (.inr q_2) =>
  some q_2)


def R09_Check (F : Nat) (r_1 : T_api_Ring) : Option Int :=
  (bif ((r_1.Policy != (1 : Int)) && (r_1.Policy != (2 : Int))) then some (1 : Int) else
  (bif (decide ((((r_1.Data).length : Nat) : Int) < (16 : Int)) || (decide ((((r_1.Data).length : Nat) : Int) > (65536 : Int)) || (decide (r_1.Start < (0 : Int)) || (decide (r_1.Start > r_1.End) || (decide (r_1.End > (1000000000000000 : Int)) || (decide ((w_i64 (r_1.End - r_1.Start)) > (((r_1.Data).length : Nat) : Int)) || (decide (r_1.First < (0 : Int)) || (decide (r_1.First > r_1.Next) || decide (r_1.Next > (1000000000000000 : Int)))))))))) then some (2 : Int) else
  (R09_Contents F r_1).bind fun r_2 => (R09_Records F r_2).bind fun r_3 =>
  (bif (!r_3.2 || ((((r_3.1).length : Nat) : Int) != (w_i64 (r_1.Next - r_1.First)))) then some (10 : Int) else
  some (0 : Int))))


def R09_Same (F : Nat) (a_1 : T_api_Ring) (b_1 : T_api_Ring) : Option Bool :=
  (bif ((a_1.Policy != b_1.Policy) || (((((a_1.Data).length : Nat) : Int) != (((b_1.Data).length : Nat) : Int)) || ((a_1.Start != b_1.Start) || ((a_1.End != b_1.End) || ((a_1.First != b_1.First) || (a_1.Next != b_1.Next)))))) then some false else
  (((R09_Check F a_1).bind fun r_1 => bif (r_1 != (0 : Int)) then ( some true) else ((R09_Check F b_1).bind fun r_2 => some (r_2 != (0 : Int))))).bind fun (p_1 : Bool) =>
  (bif p_1 then some (a_1.Data == b_1.Data) else
  (R09_Contents F a_1).bind fun r_3 => (R09_Contents F b_1).bind fun r_4 =>
  some (r_3 == r_4)))


def L09_awake_L1_body (F : Nat) (rec : Int → Int → (List Int) → Int → Int → Int → Int → Int → (List Int) → Int → Int → Int → Int → Option ((Int × (List Int) × Int × Int × Int × Int × Int × (List Int) × Int × Int × Int × Int) ⊕ Bool)) (i_1 : Int) (c_1 : Int) (c_2 : List Int) (c_3 : Int) (c_4 : Int) (c_5 : Int) (c_6 : Int) (c_7 : Int) (c_8 : List Int) (c_9 : Int) (c_10 : Int) (c_11 : Int) (c_12 : Int) : Option ((Int × (List Int) × Int × Int × Int × Int × Int × (List Int) × Int × Int × Int × Int) ⊕ Bool) :=
  (bif decide (i_1 < (4 : Int)) then (ring_Put F (⟨c_1, c_2, c_3, c_4, c_5, c_6⟩ : T_api_Ring) ([w_u8 i_1, (1 : Int), (2 : Int)] : List Int)).bind fun r_6 =>
  (ring_Put F (⟨c_7, c_8, c_9, c_10, c_11, c_12⟩ : T_api_Ring) ([w_u8 i_1, (1 : Int), (2 : Int)] : List Int)).bind fun r_7 =>
  (( bif (r_6.2.2 != (0 : Int)) then ( some true) else ( bif (r_7.2.2 != (0 : Int)) then ( some true) else ((ring_Free F r_6.1).bind fun r_8 => some (r_8 != (w_i64 ((12 : Int) - (w_i64 ((4 : Int) * i_1))))))))).bind fun (p_1 : Bool) =>
  (bif p_1 then some (.inr false) else
  rec (w_i64 (i_1 + (1 : Int))) r_6.1.Policy r_6.1.Data r_6.1.Start r_6.1.End r_6.1.First r_6.1.Next r_7.1.Policy r_7.1.Data r_7.1.Start r_7.1.End r_7.1.First r_7.1.Next) else
  some (.inl (c_1, c_2, c_3, c_4, c_5, c_6, c_7, c_8, c_9, c_10, c_11, c_12)))

def L09_awake_L1 (F : Nat) : Nat → Int → Int → (List Int) → Int → Int → Int → Int → Int → (List Int) → Int → Int → Int → Int → Option ((Int × (List Int) × Int × Int × Int × Int × Int × (List Int) × Int × Int × Int × Int) ⊕ Bool)
  | 0, _, _, _, _, _, _, _, _, _, _, _, _, _ => none
  | n + 1, i_1, c_1, c_2, c_3, c_4, c_5, c_6, c_7, c_8, c_9, c_10, c_11, c_12 => L09_awake_L1_body F (L09_awake_L1 F n) i_1 c_1 c_2 c_3 c_4 c_5 c_6 c_7 c_8 c_9 c_10 c_11 c_12

def L09_awake (F : Nat) : Option Bool :=
  (ring_New (16 : Int) (1 : Int)).bind fun r_1 =>
  (ring_New (16 : Int) (2 : Int)).bind fun r_2 =>
  (bif ((r_1.2 != (0 : Int)) || (r_2.2 != (0 : Int))) then some false else
  (ring_New (15 : Int) (2 : Int)).bind fun r_3 =>
  (ring_New (16 : Int) (3 : Int)).bind fun r_4 =>
  (need (16 * 1 ≤ 281474976710656)).bind fun _ => (ring_Put F r_1.1 (List.replicate 16 (0 : Int))).bind fun r_5 =>
  (L09_awake_L1 F F (0 : Int) r_1.1.Policy r_1.1.Data r_1.1.Start r_1.1.End r_1.1.First r_1.1.Next r_2.1.Policy r_2.1.Data r_2.1.Start r_2.1.End r_2.1.First r_2.1.Next).bind fun (o_1 : (Int × (List Int) × Int × Int × Int × Int × Int × (List Int) × Int × Int × Int × Int) ⊕ Bool) =>
  (match o_1 with
  | (.inl q_1) =>
  (ring_Put F (⟨q_1.1, q_1.2.1, q_1.2.2.1, q_1.2.2.2.1, q_1.2.2.2.2.1, q_1.2.2.2.2.2.1⟩ : T_api_Ring) ([(4 : Int), (1 : Int), (2 : Int)] : List Int)).bind fun r_9 =>
  (ring_Put F (⟨q_1.2.2.2.2.2.2.1, q_1.2.2.2.2.2.2.2.1, q_1.2.2.2.2.2.2.2.2.1, q_1.2.2.2.2.2.2.2.2.2.1, q_1.2.2.2.2.2.2.2.2.2.2.1, q_1.2.2.2.2.2.2.2.2.2.2.2⟩ : T_api_Ring) ([(4 : Int), (1 : Int), (2 : Int)] : List Int)).bind fun r_10 =>
  (ring_Take F r_9.1).bind fun r_11 =>
  (( bif (r_3.2 == (2 : Int)) then ( bif (r_4.2 == (1 : Int)) then ( bif (r_5.2.2 == (7 : Int)) then ( bif (r_9.2.1 == (1 : Int)) then ( bif (r_9.2.2 == (0 : Int)) then ( bif (r_9.1.First == (1 : Int)) then ( bif (r_9.1.Next == (5 : Int)) then ( bif (r_9.1.Start == (4 : Int)) then ( bif (r_9.1.End == (20 : Int)) then ((ring_Count F r_9.1).bind fun r_12 => bif (r_12 == (4 : Int)) then ( bif (r_10.2.1 == (0 : Int)) then ( bif (r_10.2.2 == (6 : Int)) then ((R09_Same F r_10.1 (⟨q_1.2.2.2.2.2.2.1, q_1.2.2.2.2.2.2.2.1, q_1.2.2.2.2.2.2.2.2.1, q_1.2.2.2.2.2.2.2.2.2.1, q_1.2.2.2.2.2.2.2.2.2.2.1, q_1.2.2.2.2.2.2.2.2.2.2.2⟩ : T_api_Ring)).bind fun r_13 => bif r_13 then ( bif ((((r_11.1).length : Nat) : Int) == (4 : Int)) then ((idxL r_11.1 (0 : Int)).bind fun x_1 => bif (x_1 == ([1, 1, 2] : List Int)) then ((idxL r_11.1 (3 : Int)).bind fun x_2 => bif (x_2 == ([4, 1, 2] : List Int)) then ( bif (r_11.2.First == (5 : Int)) then ( bif (r_11.2.Start == (20 : Int)) then ((ring_Count F r_11.2).bind fun r_14 => some (r_14 == (0 : Int))) else ( some false)) else ( some false)) else ( some false)) else ( some false)) else ( some false)) else ( some false)) else ( some false)) else ( some false)) else ( some false)) else ( some false)) else ( some false)) else ( some false)) else ( some false)) else ( some false)) else ( some false)) else ( some false)) else ( some false)) else ( some false))).bind fun (p_2 : Bool) =>
  some p_2
  | (.inr q_2) =>
  some q_2))


def L09_RingMakes (F : Nat) (size_1 : Int) (p_1 : Int) : Option Bool :=
  (ring_New size_1 p_1).bind fun r_1 =>
  (R09_New size_1 p_1).bind fun r_2 =>
  (bif ((r_1.2 != r_2.2) || (((((r_1.1.Data).length : Nat) : Int) != (((r_2.1.Data).length : Nat) : Int)) || ((r_1.1.Policy != r_2.1.Policy) || ((r_1.1.Start != (0 : Int)) || ((r_1.1.End != (0 : Int)) || ((r_1.1.First != (0 : Int)) || (r_1.1.Next != (0 : Int)))))))) then some false else
  (( bif (r_1.2 != (0 : Int)) then ((L09_awake F).bind fun r_3 => some r_3) else ((ring_Check F r_1.1).bind fun r_3 => bif (r_3 == (0 : Int)) then ((ring_Count F r_1.1).bind fun r_4 => bif (r_4 == (0 : Int)) then ((ring_Free F r_1.1).bind fun r_5 => bif (r_5 == size_1) then ((L09_awake F).bind fun r_6 => some r_6) else ( some false)) else ( some false)) else ( some false)))).bind fun (p_2 : Bool) =>
  some p_2)


def L09_small (r_1 : T_api_Ring) (b_1 : List (Int)) : Option Bool :=
  some (decide ((((r_1.Data).length : Nat) : Int) ≤ (70000 : Int)) && decide ((((b_1).length : Nat) : Int) ≤ (70000 : Int)))


def R09_Take (F : Nat) (r_1 : T_api_Ring) : Option ((List (List (Int))) × T_api_Ring) :=
  (R09_Check F r_1).bind fun r_2 =>
  (bif (r_2 != (0 : Int)) then some ([], r_1) else
  (R09_Contents F r_1).bind fun r_3 => (R09_Records F r_3).bind fun r_4 =>
  some (r_4.1, (⟨r_1.Policy, r_1.Data, r_1.End, r_1.End, r_1.Next, r_1.Next⟩ : T_api_Ring)))


def R09_Count (F : Nat) (r_1 : T_api_Ring) : Option Int :=
  (R09_Check F r_1).bind fun r_2 =>
  (bif (r_2 != (0 : Int)) then some (0 : Int) else
  some (w_i64 (r_1.Next - r_1.First)))


def R09_Free (F : Nat) (r_1 : T_api_Ring) : Option Int :=
  (R09_Check F r_1).bind fun r_2 =>
  (bif (r_2 != (0 : Int)) then some (0 : Int) else
  some (w_i64 ((((r_1.Data).length : Nat) : Int) - (w_i64 (r_1.End - r_1.Start)))))


def R09_SameBytes_L1_body (F : Nat) (a_1 : List (List (Int))) (b_1 : List (List (Int))) (rec : Int → Option (Unit ⊕ Bool)) (i_1 : Int) : Option (Unit ⊕ Bool) :=
  (bif decide (i_1 < (((a_1).length : Nat) : Int)) then (idxL a_1 i_1).bind fun x_1 => (idxL b_1 i_1).bind fun x_2 =>
  (bif !(x_1 == x_2) then some (.inr false) else
  rec (w_i64 (i_1 + (1 : Int)))) else
  some (.inl ()))

def R09_SameBytes_L1 (F : Nat) (a_1 : List (List (Int))) (b_1 : List (List (Int))) : Nat → Int → Option (Unit ⊕ Bool)
  | 0, _ => none
  | n + 1, i_1 => R09_SameBytes_L1_body F a_1 b_1 (R09_SameBytes_L1 F a_1 b_1 n) i_1

def R09_SameBytes (F : Nat) (a_1 : List (List (Int))) (b_1 : List (List (Int))) : Option Bool :=
  (bif ((((a_1).length : Nat) : Int) != (((b_1).length : Nat) : Int)) then some false else
  (R09_SameBytes_L1 F a_1 b_1 F (0 : Int)).bind fun (o_1 : Unit ⊕ Bool) =>
  (match o_1 with
  | (.inl q_1) =>
  some true
  | (.inr q_2) =>
  some q_2))


def L09_RingChecks (F : Nat) (r_1 : T_api_Ring) : Option Bool :=
  (L09_small r_1 []).bind fun r_2 =>
  (bif !r_2 then (L09_awake F).bind fun r_3 =>
  some r_3 else
  (ring_Take F r_1).bind fun r_4 =>
  (R09_Take F r_1).bind fun r_5 =>
  (((ring_Check F r_1).bind fun r_6 => (R09_Check F r_1).bind fun r_7 => bif (r_6 == r_7) then ((ring_Count F r_1).bind fun r_8 => (R09_Count F r_1).bind fun r_9 => bif (r_8 == r_9) then ((ring_Free F r_1).bind fun r_10 => (R09_Free F r_1).bind fun r_11 => bif (r_10 == r_11) then ((R09_SameBytes F r_4.1 r_5.1).bind fun r_12 => bif r_12 then ((R09_Same F r_4.2 r_5.2).bind fun r_13 => bif r_13 then ((L09_awake F).bind fun r_14 => some r_14) else ( some false)) else ( some false)) else ( some false)) else ( some false)) else ( some false))).bind fun (p_1 : Bool) =>
  some p_1)


def R05_number (n_1 : Int) : Option Int :=
  (bif decide (n_1 < (0 : Int)) then some (w_u64 ((w_u64 ((2 : Int) * (w_u64 (w_i64 (0 - (w_i64 (n_1 + (1 : Int)))))))) + (1 : Int))) else
  some (w_u64 ((2 : Int) * (w_u64 n_1))))


def R05_PutInt_L1_body (F : Nat) (rec : Int → (List Int) → Option (Int × (List Int))) (u_1 : Int) (row_1 : List Int) : Option (Int × (List Int)) :=
  (bif decide (u_1 ≥ (128 : Int)) then (need (((row_1).length + (([w_u8 ((w_u8 (irem u_1 (128 : Int))) + (128 : Int))] : List Int)).length) * 1 ≤ 140737488355328)).bind fun _ =>
  rec (iquo .u64 u_1 (128 : Int)) (row_1 ++ ([w_u8 ((w_u8 (irem u_1 (128 : Int))) + (128 : Int))] : List Int)) else
  some (u_1, row_1))

def R05_PutInt_L1 (F : Nat) : Nat → Int → (List Int) → Option (Int × (List Int))
  | 0, _, _ => none
  | n + 1, u_1, row_1 => R05_PutInt_L1_body F (R05_PutInt_L1 F n) u_1 row_1

def R05_PutInt (F : Nat) (b_1 : List (Int)) (n_1 : Int) : Option (List (Int)) :=
  (need (((([] : List Int)).length + (b_1).length) * 1 ≤ 140737488355328)).bind fun _ =>
  (R05_number n_1).bind fun r_1 =>
  (R05_PutInt_L1 F F r_1 ([] ++ b_1)).bind fun (o_1 : (Int × (List Int))) =>
  (need (((o_1.2).length + (([w_u8 o_1.1] : List Int)).length) * 1 ≤ 140737488355328)).bind fun _ =>
  some (o_1.2 ++ ([w_u8 o_1.1] : List Int))


def R09_Frame (F : Nat) (b_1 : List (Int)) : Option (List (Int)) :=
  (R05_PutInt F [] (((b_1).length : Nat) : Int)).bind fun r_1 => (need (((r_1).length + (b_1).length) * 1 ≤ 140737488355328)).bind fun _ =>
  some (r_1 ++ b_1)


def R09_written_L1_body (F : Nat) (at__1 : Int) (frame_1 : List (Int)) (rec : Int → (List Int) → Option (List Int)) (i_1 : Int) (row_1 : List Int) : Option (List Int) :=
  (bif decide (i_1 < (((frame_1).length : Nat) : Int)) then (need ((((row_1).length : Nat) : Int) ≠ (0 : Int))).bind fun _ => (idxL frame_1 i_1).bind fun x_1 => (idxL row_1 (irem (w_i64 (at__1 + i_1)) (((row_1).length : Nat) : Int))).bind fun x_2 =>
  rec (w_i64 (i_1 + (1 : Int))) ((row_1).set ((irem (w_i64 (at__1 + i_1)) (((row_1).length : Nat) : Int)).toNat) x_1) else
  some row_1)

def R09_written_L1 (F : Nat) (at__1 : Int) (frame_1 : List (Int)) : Nat → Int → (List Int) → Option (List Int)
  | 0, _, _ => none
  | n + 1, i_1, row_1 => R09_written_L1_body F at__1 frame_1 (R09_written_L1 F at__1 frame_1 n) i_1 row_1

def R09_written (F : Nat) (data_1 : List (Int)) (at__1 : Int) (frame_1 : List (Int)) : Option (List (Int)) :=
  (need (((([] : List Int)).length + (data_1).length) * 1 ≤ 140737488355328)).bind fun _ =>
  (R09_written_L1 F at__1 frame_1 F (0 : Int) ([] ++ data_1)).bind fun (o_1 : (List Int)) =>
  some o_1


def R09_Put_L1_body (F : Nat) (r_3 : (List (Int))) (r_6 : (List (List (Int))) × Bool) (rec : Int → Int → Int → Option (Int × Int)) (lost_1 : Int) (room_1 : Int) (c_1 : Int) : Option (Int × Int) :=
  (bif decide (room_1 < (((r_3).length : Nat) : Int)) then (idxL r_6.1 lost_1).bind fun x_1 => (R09_Frame F x_1).bind fun r_7 =>
  rec (w_i64 (lost_1 + (1 : Int))) (w_i64 (room_1 + (((r_7).length : Nat) : Int))) (w_i64 (c_1 + (((r_7).length : Nat) : Int))) else
  some (lost_1, c_1))

def R09_Put_L1 (F : Nat) (r_3 : (List (Int))) (r_6 : (List (List (Int))) × Bool) : Nat → Int → Int → Int → Option (Int × Int)
  | 0, _, _, _ => none
  | n + 1, lost_1, room_1, c_1 => R09_Put_L1_body F r_3 r_6 (R09_Put_L1 F r_3 r_6 n) lost_1 room_1 c_1

def R09_Put (F : Nat) (r_1 : T_api_Ring) (b_1 : List (Int)) : Option (T_api_Ring × Int × Int) :=
  (R09_Check F r_1).bind fun r_2 =>
  (bif (r_2 != (0 : Int)) then some (r_1, (0 : Int), r_2) else
  (R09_Frame F b_1).bind fun r_3 =>
  (bif (decide ((((b_1).length : Nat) : Int) > (2000 : Int)) || decide ((((r_3).length : Nat) : Int) > (((r_1.Data).length : Nat) : Int))) then some (r_1, (0 : Int), (7 : Int)) else
  (( bif (r_1.Policy == (2 : Int)) then ((R09_Free F r_1).bind fun r_4 => some (decide ((((r_3).length : Nat) : Int) > r_4))) else ( some false))).bind fun (p_1 : Bool) =>
  (bif p_1 then some (r_1, (0 : Int), (6 : Int)) else
  (bif (decide ((w_i64 (r_1.End + (((r_3).length : Nat) : Int))) > (1000000000000000 : Int)) || decide ((w_i64 (r_1.Next + (1 : Int))) > (1000000000000000 : Int))) then some (r_1, (0 : Int), (2 : Int)) else
  (R09_Contents F r_1).bind fun r_5 => (R09_Records F r_5).bind fun r_6 =>
  (R09_Put_L1 F r_3 r_6 F (0 : Int) (w_i64 ((((r_1.Data).length : Nat) : Int) - (w_i64 (r_1.End - r_1.Start)))) r_1.Start).bind fun (o_1 : (Int × Int)) =>
  (R09_written F r_1.Data r_1.End r_3).bind fun r_8 =>
  some ((⟨r_1.Policy, r_8, o_1.2, w_i64 (r_1.End + (((r_3).length : Nat) : Int)), w_i64 (r_1.First + o_1.1), w_i64 (r_1.Next + (1 : Int))⟩ : T_api_Ring), o_1.1, (0 : Int))))))


def L09_RingPuts (F : Nat) (r_1 : T_api_Ring) (b_1 : List (Int)) : Option Bool :=
  (L09_small r_1 b_1).bind fun r_2 =>
  (bif !r_2 then (L09_awake F).bind fun r_3 =>
  some r_3 else
  (ring_Put F r_1 b_1).bind fun r_4 =>
  (R09_Put F r_1 b_1).bind fun r_5 =>
  (( bif (r_4.2.1 == r_5.2.1) then ( bif (r_4.2.2 == r_5.2.2) then ((R09_Same F r_4.1 r_5.1).bind fun r_6 => bif r_6 then ((L09_awake F).bind fun r_7 => some r_7) else ( some false)) else ( some false)) else ( some false))).bind fun (p_1 : Bool) =>
  some p_1)


def L09_size (F : Nat) (b_1 : List (Int)) : Option Int :=
  (codec_PutInt F [] (((b_1).length : Nat) : Int)).bind fun r_1 =>
  some (w_i64 ((((r_1).length : Nat) : Int) + (((b_1).length : Nat) : Int)))


def L09_RingKeeps (F : Nat) (r_1 : T_api_Ring) (b_1 : List (Int)) : Option Bool :=
  (((L09_small r_1 b_1).bind fun r_2 => bif !r_2 then ( some true) else ((ring_Check F r_1).bind fun r_3 => some (r_3 != (0 : Int))))).bind fun (p_1 : Bool) =>
  (bif p_1 then (L09_awake F).bind fun r_4 =>
  some r_4 else
  (ring_Take F r_1).bind fun r_5 =>
  (ring_Put F r_1 b_1).bind fun r_6 =>
  (ring_Take F r_6.1).bind fun r_7 =>
  (bif (r_6.2.2 != (0 : Int)) then (( bif (r_6.2.1 == (0 : Int)) then ((R09_SameBytes F r_5.1 r_7.1).bind fun r_8 => bif r_8 then ( bif (r_6.1.First == r_1.First) then ( bif (r_6.1.Next == r_1.Next) then ((L09_awake F).bind fun r_9 => some r_9) else ( some false)) else ( some false)) else ( some false)) else ( some false))).bind fun (p_2 : Bool) =>
  some p_2 else
  (( bif decide (r_6.2.1 < (0 : Int)) then ( some true) else ( bif decide (r_6.2.1 > (((r_5.1).length : Nat) : Int)) then ( some true) else ( bif decide (r_6.2.1 > (0 : Int)) then ( bif (r_1.Policy == (2 : Int)) then ( some true) else ((ring_Check F r_6.1).bind fun r_10 => bif (r_10 != (0 : Int)) then ( some true) else ( bif (r_6.1.First != (w_i64 (r_1.First + r_6.2.1))) then ( some true) else ( some (r_6.1.Next != (w_i64 (r_1.Next + (1 : Int)))))))) else ((ring_Check F r_6.1).bind fun r_10 => bif (r_10 != (0 : Int)) then ( some true) else ( bif (r_6.1.First != (w_i64 (r_1.First + r_6.2.1))) then ( some true) else ( some (r_6.1.Next != (w_i64 (r_1.Next + (1 : Int))))))))))).bind fun (p_3 : Bool) =>
  (bif p_3 then some false else
  (( bif decide (r_6.2.1 > (0 : Int)) then ((ring_Free F r_6.1).bind fun r_11 => (idxL r_5.1 (w_i64 (r_6.2.1 - (1 : Int)))).bind fun x_1 => (L09_size F x_1).bind fun r_12 => some (decide (r_11 ≥ r_12))) else ( some false))).bind fun (p_4 : Bool) =>
  (bif p_4 then some false else
  (((need ((0 : Int) ≤ r_6.2.1 ∧ r_6.2.1 ≤ (((r_5.1).length : Nat) : Int))).bind fun _ => (need (((r_6.2.1).toNat) ≤ ((r_5.1).length) ∧ ((r_5.1).length) ≤ (r_5.1).length)).bind fun _ => (need (((([] : List (List (Int)))).length + (((r_5.1).take ((r_5.1).length)).drop ((r_6.2.1).toNat)).length) * 24 ≤ 140737488355328)).bind fun _ => (need (((([] ++ (((r_5.1).take ((r_5.1).length)).drop ((r_6.2.1).toNat)))).length + (([b_1] : List (List (Int)))).length) * 24 ≤ 140737488355328)).bind fun _ => (R09_SameBytes F r_7.1 (([] ++ (((r_5.1).take ((r_5.1).length)).drop ((r_6.2.1).toNat))) ++ ([b_1] : List (List (Int))))).bind fun r_13 => bif r_13 then ((L09_awake F).bind fun r_14 => some r_14) else ( some false))).bind fun (p_5 : Bool) =>
  some p_5))))


def L09_RingPlays_L2_body (F : Nat) (bytes_1 : Int) (r_7 : Int) (rec : Int → Int → Int → (List (List (Int))) → Option (Int × Int × Int × (List (List (Int))))) (used_2 : Int) (first_2 : Int) (lost_1 : Int) (row_2 : List (List (Int))) : Option (Int × Int × Int × (List (List (Int)))) :=
  (bif (decide ((((row_2).length : Nat) : Int) > (0 : Int)) && decide ((w_i64 (used_2 + r_7)) > (w_i64 ((16 : Int) + (w_i64 bytes_1))))) then (idxL row_2 (0 : Int)).bind fun x_2 => (L09_size F x_2).bind fun r_8 =>
  (need (1 ≤ ((row_2).length))).bind fun _ =>
  rec (w_i64 (used_2 - r_8)) (w_i64 (first_2 + (1 : Int))) (w_i64 (lost_1 - (1 : Int))) ((row_2).drop 1) else
  some (used_2, first_2, lost_1, row_2))

def L09_RingPlays_L2 (F : Nat) (bytes_1 : Int) (r_7 : Int) : Nat → Int → Int → Int → (List (List (Int))) → Option (Int × Int × Int × (List (List (Int))))
  | 0, _, _, _, _ => none
  | n + 1, used_2, first_2, lost_1, row_2 => L09_RingPlays_L2_body F bytes_1 r_7 (L09_RingPlays_L2 F bytes_1 r_7 n) used_2 first_2 lost_1 row_2

def L09_RingPlays_L1_body (F : Nat) (bytes_1 : Int) (stall_1 : Bool) (l_1 : List (List (Int))) (rec : Int → Int → Int → Int → (List Int) → Int → Int → Int → Int → (List (List (Int))) → Option ((Int × (List Int) × Int × Int × Int × Int × (List (List (Int)))) ⊕ Bool)) (used_1 : Int) (first_1 : Int) (i_1 : Int) (c_1 : Int) (c_2 : List Int) (c_3 : Int) (c_4 : Int) (c_5 : Int) (c_6 : Int) (row_1 : List (List (Int))) : Option ((Int × (List Int) × Int × Int × Int × Int × (List (List (Int)))) ⊕ Bool) :=
  (bif decide (i_1 < (((l_1).length : Nat) : Int)) then (((idxL l_1 i_1).bind fun x_1 =>
  (bif decide ((((x_1).length : Nat) : Int) > (100 : Int)) then (L09_awake F).bind fun r_3 =>
  some (.inr r_3) else
  (bif ((((x_1).length : Nat) : Int) == (0 : Int)) then (ring_Take F (⟨c_1, c_2, c_3, c_4, c_5, c_6⟩ : T_api_Ring)).bind fun r_4 =>
  (R09_SameBytes F r_4.1 row_1).bind fun r_5 =>
  (bif !r_5 then some (.inr false) else
  some (.inl ((0 : Int), w_i64 (first_1 + (((row_1).length : Nat) : Int)), r_4.2.Policy, r_4.2.Data, r_4.2.Start, r_4.2.End, r_4.2.First, r_4.2.Next, []))) else
  (ring_Put F (⟨c_1, c_2, c_3, c_4, c_5, c_6⟩ : T_api_Ring) x_1).bind fun r_6 =>
  (L09_size F x_1).bind fun r_7 =>
  (bif !((decide (r_7 ≤ (w_i64 ((16 : Int) + (w_i64 bytes_1)))) && (!stall_1 || decide ((w_i64 (used_1 + r_7)) ≤ (w_i64 ((16 : Int) + (w_i64 bytes_1)))))) == (r_6.2.2 == (0 : Int))) then some (.inr false) else
  (bif !(decide (r_7 ≤ (w_i64 ((16 : Int) + (w_i64 bytes_1)))) && (!stall_1 || decide ((w_i64 (used_1 + r_7)) ≤ (w_i64 ((16 : Int) + (w_i64 bytes_1)))))) then some (.inl (used_1, first_1, r_6.1.Policy, r_6.1.Data, r_6.1.Start, r_6.1.End, r_6.1.First, r_6.1.Next, row_1)) else
  (L09_RingPlays_L2 F bytes_1 r_7 F used_1 first_1 r_6.2.1 row_1).bind fun (o_4 : (Int × Int × Int × (List (List (Int))))) =>
  (need (((o_4.2.2.2).length + (([x_1] : List (List (Int)))).length) * 24 ≤ 140737488355328)).bind fun _ =>
  (( bif (o_4.2.2.1 != (0 : Int)) then ( some true) else ( bif (r_6.1.First != o_4.2.1) then ( some true) else ((ring_Count F r_6.1).bind fun r_9 => bif (r_9 != ((((o_4.2.2.2 ++ ([x_1] : List (List (Int))))).length : Nat) : Int)) then ( some true) else ((ring_Free F r_6.1).bind fun r_10 => some (r_10 != (w_i64 ((w_i64 ((16 : Int) + (w_i64 bytes_1))) - (w_i64 (o_4.1 + r_7)))))))))).bind fun (p_1 : Bool) =>
  (bif p_1 then some (.inr false) else
  some (.inl (w_i64 (o_4.1 + r_7), o_4.2.1, r_6.1.Policy, r_6.1.Data, r_6.1.Start, r_6.1.End, r_6.1.First, r_6.1.Next, (o_4.2.2.2 ++ ([x_1] : List (List (Int))))))))))) : Option ((Int × Int × Int × (List Int) × Int × Int × Int × Int × (List (List (Int)))) ⊕ Bool))).bind fun (o_3 : (Int × Int × Int × (List Int) × Int × Int × Int × Int × (List (List (Int)))) ⊕ Bool) =>
  (match o_3 with
  | (.inl q_1) =>
  rec q_1.1 q_1.2.1 (w_i64 (i_1 + (1 : Int))) q_1.2.2.1 q_1.2.2.2.1 q_1.2.2.2.2.1 q_1.2.2.2.2.2.1 q_1.2.2.2.2.2.2.1 q_1.2.2.2.2.2.2.2.1 q_1.2.2.2.2.2.2.2.2
  | (.inr q_2) =>
  some (.inr q_2)) else
  some (.inl (c_1, c_2, c_3, c_4, c_5, c_6, row_1)))

def L09_RingPlays_L1 (F : Nat) (bytes_1 : Int) (stall_1 : Bool) (l_1 : List (List (Int))) : Nat → Int → Int → Int → Int → (List Int) → Int → Int → Int → Int → (List (List (Int))) → Option ((Int × (List Int) × Int × Int × Int × Int × (List (List (Int)))) ⊕ Bool)
  | 0, _, _, _, _, _, _, _, _, _, _ => none
  | n + 1, used_1, first_1, i_1, c_1, c_2, c_3, c_4, c_5, c_6, row_1 => L09_RingPlays_L1_body F bytes_1 stall_1 l_1 (L09_RingPlays_L1 F bytes_1 stall_1 l_1 n) used_1 first_1 i_1 c_1 c_2 c_3 c_4 c_5 c_6 row_1

def L09_RingPlays (F : Nat) (bytes_1 : Int) (stall_1 : Bool) (l_1 : List (List (Int))) : Option Bool :=
  (bif decide ((((l_1).length : Nat) : Int) > (40 : Int)) then (L09_awake F).bind fun r_1 =>
  some r_1 else
  (((bif stall_1 then some (2 : Int) else
  some (1 : Int)) : Option Int)).bind fun (o_1 : Int) =>
  (ring_New (w_i64 ((16 : Int) + (w_i64 bytes_1))) o_1).bind fun r_2 =>
  (bif (r_2.2 != (0 : Int)) then some false else
  (L09_RingPlays_L1 F bytes_1 stall_1 l_1 F (0 : Int) (0 : Int) (0 : Int) r_2.1.Policy r_2.1.Data r_2.1.Start r_2.1.End r_2.1.First r_2.1.Next []).bind fun (o_2 : (Int × (List Int) × Int × Int × Int × Int × (List (List (Int)))) ⊕ Bool) =>
  (match o_2 with
  | (.inl q_3) =>
  (ring_Take F (⟨q_3.1, q_3.2.1, q_3.2.2.1, q_3.2.2.2.1, q_3.2.2.2.2.1, q_3.2.2.2.2.2.1⟩ : T_api_Ring)).bind fun r_11 =>
  (((R09_SameBytes F r_11.1 q_3.2.2.2.2.2.2).bind fun r_12 => bif r_12 then ((L09_awake F).bind fun r_13 => some r_13) else ( some false))).bind fun (p_2 : Bool) =>
  some p_2
  | (.inr q_4) =>
  some q_4)))


def L09_RingMoves (F : Nat) (r_1 : T_api_Ring) (b_1 : List (Int)) (k_1 : Int) : Option Bool :=
  (((L09_small r_1 b_1).bind fun r_2 => bif !r_2 then ( some true) else ((ring_Check F r_1).bind fun r_3 => some (r_3 != (0 : Int))))).bind fun (p_1 : Bool) =>
  (bif p_1 then (L09_awake F).bind fun r_4 =>
  some r_4 else
  (bif (decide (r_1.End > (w_i64 ((w_i64 ((1000000000000000 : Int) - (w_i64 ((w_i64 k_1) * (((r_1.Data).length : Nat) : Int))))) - (65536 : Int)))) || decide (r_1.Next ≥ (1000000000000000 : Int))) then (L09_awake F).bind fun r_5 =>
  some r_5 else
  (ring_Take F r_1).bind fun r_6 =>
  (ring_Take F (⟨r_1.Policy, r_1.Data, w_i64 (r_1.Start + (w_i64 ((w_i64 k_1) * (((r_1.Data).length : Nat) : Int)))), w_i64 (r_1.End + (w_i64 ((w_i64 k_1) * (((r_1.Data).length : Nat) : Int)))), r_1.First, r_1.Next⟩ : T_api_Ring)).bind fun r_7 =>
  (ring_Put F r_1 b_1).bind fun r_8 =>
  (ring_Put F (⟨r_1.Policy, r_1.Data, w_i64 (r_1.Start + (w_i64 ((w_i64 k_1) * (((r_1.Data).length : Nat) : Int)))), w_i64 (r_1.End + (w_i64 ((w_i64 k_1) * (((r_1.Data).length : Nat) : Int)))), r_1.First, r_1.Next⟩ : T_api_Ring) b_1).bind fun r_9 =>
  (((ring_Check F (⟨r_1.Policy, r_1.Data, w_i64 (r_1.Start + (w_i64 ((w_i64 k_1) * (((r_1.Data).length : Nat) : Int)))), w_i64 (r_1.End + (w_i64 ((w_i64 k_1) * (((r_1.Data).length : Nat) : Int)))), r_1.First, r_1.Next⟩ : T_api_Ring)).bind fun r_10 => bif (r_10 == (0 : Int)) then ((ring_Count F (⟨r_1.Policy, r_1.Data, w_i64 (r_1.Start + (w_i64 ((w_i64 k_1) * (((r_1.Data).length : Nat) : Int)))), w_i64 (r_1.End + (w_i64 ((w_i64 k_1) * (((r_1.Data).length : Nat) : Int)))), r_1.First, r_1.Next⟩ : T_api_Ring)).bind fun r_11 => (ring_Count F r_1).bind fun r_12 => bif (r_11 == r_12) then ((ring_Free F (⟨r_1.Policy, r_1.Data, w_i64 (r_1.Start + (w_i64 ((w_i64 k_1) * (((r_1.Data).length : Nat) : Int)))), w_i64 (r_1.End + (w_i64 ((w_i64 k_1) * (((r_1.Data).length : Nat) : Int)))), r_1.First, r_1.Next⟩ : T_api_Ring)).bind fun r_13 => (ring_Free F r_1).bind fun r_14 => bif (r_13 == r_14) then ((R09_SameBytes F r_6.1 r_7.1).bind fun r_15 => bif r_15 then ( bif (r_8.2.1 == r_9.2.1) then ( bif (r_8.2.2 == r_9.2.2) then ( bif ((w_i64 (r_9.1.Start - r_8.1.Start)) == (w_i64 ((w_i64 k_1) * (((r_1.Data).length : Nat) : Int)))) then ( bif ((w_i64 (r_9.1.End - r_8.1.End)) == (w_i64 ((w_i64 k_1) * (((r_1.Data).length : Nat) : Int)))) then ( bif (r_9.1.First == r_8.1.First) then ((L09_awake F).bind fun r_16 => some r_16) else ( some false)) else ( some false)) else ( some false)) else ( some false)) else ( some false)) else ( some false)) else ( some false)) else ( some false)) else ( some false))).bind fun (p_2 : Bool) =>
  some p_2))


end Go.Ab
