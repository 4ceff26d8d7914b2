/- Packets: both encoders, both decoders. -/
import Derived.Test.YtlnlcciflpncmaaB11k
import Derived.Test.YtlnlcciflpncmaaC11
namespace Go.Ab
open Go
set_option linter.unusedVariables false
theorem zNu {b:List Int} (hb:∀ x∈b,y8 x):(zDy b).1.Events.length≤1000∧∀ e∈(zDy b).1.Events,e.Stack.length≤32:=by
 have key:∀ (k:Nat) (n:List (List Int)) (s:List zE) (u f:Int) (row:List zA),(∀ e∈row,e.Stack.length≤32)→∀ e∈(jN n s b k u f row).2.2,e.Stack.length≤32:=by
  intro k n s
  induction k with
  | zero=>intro u f row h;exact h
  | succ k ih =>
   intro u f row h
   simp only [jN]
   split
   ·exact h
   ·refine ih _ _ _ (fun e he=>?_)
    rcases List.mem_append.1 he with he | he
    ·exact h e he
    ·simp at he;subst he
     unfold jR
     split
     ·simp [ev0]
     split
     ·simp [ev0]
     split
     ·simp [ev0]
     split
     ·simp [ev0]
     split
     ·simp [ev0]
     ·exact zK2
 have hr:=(zEf hb).2.2.2.2.2.2.2.2.1
 unfold zDy
 split
 ·simp [pk0]
 split
 ·simp [pk0]
 ·exact ⟨hr.2.2,key _ _ _ _ _ _ (fun e he=>by cases he)⟩
theorem L11_PacketDecodes_plain:∀ (a0:List (Int)),(zFS y8) a0→∃ F,uK F a0=some true:=by
 intro b hb
 refine ⟨200000,?_⟩
 unfold uK
 by_cases hl:(b.length:Int)>600
 ·rw [z9 hl];simp only [cond_true,Option.bind_some,zKP]
 have he:=zNu hb.1
 rw [z7 hl,cond_false,zFu hb.1 (by omega),Option.bind_some,zH4 hb.1 (by omega),Option.bind_some,zKz (by omega) (fun e h=>by have:=he.2 e h;omega)]
 simp only [Option.bind_some,decide_true,cond_true,BEq.rfl,zKP]
end Go.Ab
