/- A value's check and its literal, a number as it is written: walked. -/
import Derived.Test.YtgidnbkbmjjihaaGreatDoorLexU
import Derived.Test.YtgidnbkbmjjihaaGreatDoorLexAgain
import Derived.Lib.SmallJoins
import Derived.Lib.Replace
namespace Go.Proofs.YtgidnbkbmjjihaaGreatDoor
open Go.RowKit

/-- What is wrong with a value: 0: nothing. -/
def checkV (k i : Int) (s : ByteArray) : Int :=
  if k = 0 then (if i = 0 ∧ s.toList = [] then 0 else 3)
  else if k = 1 then (if (i = 0 ∨ i = 1) ∧ s.toList = [] then 0 else 3)
  else if k = 2 then (if s.toList = [] then 0 else 3)
  else if k = 3 ∨ k = 4 then (if i = 0 then 0 else 3)
  else 5

theorem below_two (w : World) (o1 o2 : Obj) : Below w.heap.size w ((w.alloc o1).alloc o2) :=
  ((Below.refl _ _).alloc (Nat.le_refl _) _).alloc (by simp) _

set_option maxHeartbeats 2000000 in
theorem check_any (k i : Int) (s : ByteArray) (w : World) :
    Calls Tryz.prog 104 #[.agg #[.int .i64 k, .int .i64 i, .string s]] w fun e w' => e = .returned (.int .i64 (checkV k i s)) ∧ Below w.heap.size w w' := by
  by_cases h0 : k = 0
  · subst h0
    go_enter Tryz.func104, Tryz.ntmps104
    go_wp2
    all_goals (go_ret; exact ⟨by simp_all [checkV], below_two _ _ _⟩)
  by_cases h1 : k = 1
  · subst h1
    by_cases hi : i = 1
    · subst hi
      go_enter Tryz.func104, Tryz.ntmps104
      go_wp2
      all_goals (go_ret; exact ⟨by simp_all [checkV], below_two _ _ _⟩)
    · have hi' : (i == 1) = false := by simpa using hi
      go_enter Tryz.func104, Tryz.ntmps104
      go_wp2
      all_goals (go_ret; exact ⟨by simp_all [checkV], below_two _ _ _⟩)
  by_cases h2 : k = 2
  · subst h2
    go_enter Tryz.func104, Tryz.ntmps104
    go_wp2
    all_goals (go_ret; exact ⟨by simp_all [checkV], below_two _ _ _⟩)
  by_cases h3 : k = 3
  · subst h3
    go_enter Tryz.func104, Tryz.ntmps104
    go_wp2
    all_goals (go_ret; exact ⟨by simp_all [checkV], below_two _ _ _⟩)
  by_cases h4 : k = 4
  · subst h4
    go_enter Tryz.func104, Tryz.ntmps104
    go_wp2
    all_goals (go_ret; exact ⟨by simp_all [checkV], below_two _ _ _⟩)
  · go_enter Tryz.func104, Tryz.ntmps104
    go_wp2
    go_ret
    exact ⟨by simp_all [checkV], below_two _ _ _⟩
end Go.Proofs.YtgidnbkbmjjihaaGreatDoor
