/- The symbol at the front, walked: how many bytes it has. -/
import Derived.Test.YtgidnbkbmjjihaaGreatDoorLexD
import Derived.Lib.IndexAny
import Derived.LoopN
namespace Go.Proofs.YtgidnbkbmjjihaaGreatDoor
open Go.RowKit

theorem symLen_eq (c : UInt8) (r : List UInt8) : Lex.symLen (c :: r) =
    if Lib.hasPrefix (c :: r) [60, 62] then 2 else if Lib.hasPrefix (c :: r) [60, 61] then 2 else if Lib.hasPrefix (c :: r) [62, 61] then 2 else if Lib.hasPrefix (c :: r) [124, 124] then 2
    else if [40, 41, 44, 46, 42, 61, 60, 62, 43, 45, 47, 37, 59].contains c then 1 else 0 := by
  cases r with
  | nil => simp [Lex.symLen, Lib.hasPrefix]
  | cons d r =>
    simp only [Lex.symLen, Lib.hasPrefix, List.isPrefixOf, Bool.and_eq_true, beq_iff_eq, List.isPrefixOf_nil_left, and_true, List.contains_iff_mem]
    by_cases h1 : c = 60 ∧ d = 62
    · simp [h1]
    by_cases h2 : c = 60 ∧ d = 61
    · simp [h2]
    by_cases h3 : c = 62 ∧ d = 61
    · simp [h3]
    by_cases h4 : c = 124 ∧ d = 124
    · simp [h4]
    simp only [eq_comm (a := (60 : UInt8)) (b := c), eq_comm (a := (62 : UInt8)) (b := c), eq_comm (a := (124 : UInt8)) (b := c), eq_comm (a := (61 : UInt8)) (b := d), eq_comm (a := (62 : UInt8)) (b := d), eq_comm (a := (124 : UInt8)) (b := d), h1, h2, h3, h4, or_self, if_false]

def symAns (b0 b1 b2 b3 bm : Bool) : Nat := if b0 then 2 else if b1 then 2 else if b2 then 2 else if b3 then 2 else if bm then 1 else 0

set_option maxHeartbeats 1000000 in
theorem symbol_any (s : ByteArray) (w : World) (h1 : 1 ≤ s.size) :
    Calls Tryz.prog 102 #[.string s] w fun e w' => e = .returned (.int .i64 (Lex.symLen s.data.toList)) ∧ w = w' := by
  have hs : ∃ c r, s.data.toList = c :: r ∧ s[0] = c := by
    have := drop_get s 0 (by omega)
    exact ⟨_, _, by simpa using this, rfl⟩
  obtain ⟨c, r, hcr, hc0⟩ := hs
  have HE : Hid (Lex.symLen s.data.toList = symAns (Lib.hasPrefix (c :: r) [60, 62]) (Lib.hasPrefix (c :: r) [60, 61]) (Lib.hasPrefix (c :: r) [62, 61]) (Lib.hasPrefix (c :: r) [124, 124]) ([40, 41, 44, 46, 42, 61, 60, 62, 43, 45, 47, 37, 59].contains c)) := by rw [hcr]; exact symLen_eq c r
  obtain ⟨b0, e0⟩ : ∃ b, Lib.hasPrefix (c :: r) [60, 62] = b := ⟨_, rfl⟩
  have P0 : ∀ W, Calls Tryz.prog 42 #[.string s, .string ⟨#[60, 62]⟩] W fun e w' => e = .returned (.bool b0) ∧ W = w' := fun W => by
    have h := Tryz.strings_HasPrefix s ⟨#[60, 62]⟩ W
    rw [hcr] at h
    rw [← e0]
    exact h.mono fun _ _ ⟨h1, h2⟩ => ⟨h1, h2.symm⟩
  obtain ⟨b1, e1⟩ : ∃ b, Lib.hasPrefix (c :: r) [60, 61] = b := ⟨_, rfl⟩
  have P1 : ∀ W, Calls Tryz.prog 42 #[.string s, .string ⟨#[60, 61]⟩] W fun e w' => e = .returned (.bool b1) ∧ W = w' := fun W => by
    have h := Tryz.strings_HasPrefix s ⟨#[60, 61]⟩ W
    rw [hcr] at h
    rw [← e1]
    exact h.mono fun _ _ ⟨h1, h2⟩ => ⟨h1, h2.symm⟩
  obtain ⟨b2, e2⟩ : ∃ b, Lib.hasPrefix (c :: r) [62, 61] = b := ⟨_, rfl⟩
  have P2 : ∀ W, Calls Tryz.prog 42 #[.string s, .string ⟨#[62, 61]⟩] W fun e w' => e = .returned (.bool b2) ∧ W = w' := fun W => by
    have h := Tryz.strings_HasPrefix s ⟨#[62, 61]⟩ W
    rw [hcr] at h
    rw [← e2]
    exact h.mono fun _ _ ⟨h1, h2⟩ => ⟨h1, h2.symm⟩
  obtain ⟨b3, e3⟩ : ∃ b, Lib.hasPrefix (c :: r) [124, 124] = b := ⟨_, rfl⟩
  have P3 : ∀ W, Calls Tryz.prog 42 #[.string s, .string ⟨#[124, 124]⟩] W fun e w' => e = .returned (.bool b3) ∧ W = w' := fun W => by
    have h := Tryz.strings_HasPrefix s ⟨#[124, 124]⟩ W
    rw [hcr] at h
    rw [← e3]
    exact h.mono fun _ _ ⟨h1, h2⟩ => ⟨h1, h2.symm⟩
  have PB : ∀ W, Calls Tryz.prog 43 #[.string ⟨#[40, 41, 44, 46, 42, 61, 60, 62, 43, 45, 47, 37, 59]⟩, .int .u8 s[0].toNat] W fun e w' => ∃ n : Int, e = .returned (.int .i64 n) ∧ Hid ([40, 41, 44, 46, 42, 61, 60, 62, 43, 45, 47, 37, 59].contains c = decide (0 ≤ n)) ∧ w' = W := fun W =>
    (Tryz.strings_IndexByte ⟨#[40, 41, 44, 46, 42, 61, 60, 62, 43, 45, 47, 37, 59]⟩ s[0].toNat W).mono fun e w' ⟨he, hw⟩ => by
      refine ⟨_, he, ?_, hw⟩
      rw [hc0]
      simp only [Int.toNat_natCast, Nat.toUInt8_eq, UInt8.ofNat_toNat]
      exact Lib.contains_iff_indexByte [40, 41, 44, 46, 42, 61, 60, 62, 43, 45, 47, 37, 59] c
  rw [e0, e1, e2, e3] at HE
  have QB := Lib.hid PB
  have Q0 := Lib.hid P0
  have Q1 := Lib.hid P1
  have Q2 := Lib.hid P2
  have Q3 := Lib.hid P3
  have i0 : ∀ W, (Instr.index 252 (.agg #[.string ⟨#[60, 62]⟩, .string ⟨#[60, 61]⟩, .string ⟨#[62, 61]⟩, .string ⟨#[124, 124]⟩]) (.int .i64 0)).run Tryz.prog W = .ok (.string ⟨#[60, 62]⟩) W := fun _ => by kernel_rfl
  have i1 : ∀ W, (Instr.index 252 (.agg #[.string ⟨#[60, 62]⟩, .string ⟨#[60, 61]⟩, .string ⟨#[62, 61]⟩, .string ⟨#[124, 124]⟩]) (.int .i64 1)).run Tryz.prog W = .ok (.string ⟨#[60, 61]⟩) W := fun _ => by kernel_rfl
  have i2 : ∀ W, (Instr.index 252 (.agg #[.string ⟨#[60, 62]⟩, .string ⟨#[60, 61]⟩, .string ⟨#[62, 61]⟩, .string ⟨#[124, 124]⟩]) (.int .i64 2)).run Tryz.prog W = .ok (.string ⟨#[62, 61]⟩) W := fun _ => by kernel_rfl
  have i3 : ∀ W, (Instr.index 252 (.agg #[.string ⟨#[60, 62]⟩, .string ⟨#[60, 61]⟩, .string ⟨#[62, 61]⟩, .string ⟨#[124, 124]⟩]) (.int .i64 3)).run Tryz.prog W = .ok (.string ⟨#[124, 124]⟩) W := fun _ => by kernel_rfl
  clear PB P0 P1 P2 P3 e0 e1 e2 e3 hcr hc0
  rcases b0 with _ | _
  rotate_left
  · go_enter Tryz.func102, Tryz.ntmps102
    go_wp2
    refine wp_loop_rounds 5 ?_
    go_wp2_with (first | rw [rounds_succ] | (go_at_call 42; first | ((with_reducible refine (Q0.out _).mono ?_); rintro e w' ⟨rfl, rfl⟩) | ((with_reducible refine (Q1.out _).mono ?_); rintro e w' ⟨rfl, rfl⟩) | ((with_reducible refine (Q2.out _).mono ?_); rintro e w' ⟨rfl, rfl⟩) | ((with_reducible refine (Q3.out _).mono ?_); rintro e w' ⟨rfl, rfl⟩)) | (go_at_call 43; (with_reducible refine (QB.out _).mono ?_); rintro e w' ⟨n, rfl, HM, rfl⟩))
    go_ret
    exact ⟨ret_i (by rw [HE.out]; rfl), rfl⟩
  rcases b1 with _ | _
  rotate_left
  · go_enter Tryz.func102, Tryz.ntmps102
    go_wp2
    refine wp_loop_rounds 5 ?_
    go_wp2_with (first | rw [rounds_succ] | (go_at_call 42; first | ((with_reducible refine (Q0.out _).mono ?_); rintro e w' ⟨rfl, rfl⟩) | ((with_reducible refine (Q1.out _).mono ?_); rintro e w' ⟨rfl, rfl⟩) | ((with_reducible refine (Q2.out _).mono ?_); rintro e w' ⟨rfl, rfl⟩) | ((with_reducible refine (Q3.out _).mono ?_); rintro e w' ⟨rfl, rfl⟩)) | (go_at_call 43; (with_reducible refine (QB.out _).mono ?_); rintro e w' ⟨n, rfl, HM, rfl⟩))
    go_ret
    exact ⟨ret_i (by rw [HE.out]; rfl), rfl⟩
  rcases b2 with _ | _
  rotate_left
  · go_enter Tryz.func102, Tryz.ntmps102
    go_wp2
    refine wp_loop_rounds 5 ?_
    go_wp2_with (first | rw [rounds_succ] | (go_at_call 42; first | ((with_reducible refine (Q0.out _).mono ?_); rintro e w' ⟨rfl, rfl⟩) | ((with_reducible refine (Q1.out _).mono ?_); rintro e w' ⟨rfl, rfl⟩) | ((with_reducible refine (Q2.out _).mono ?_); rintro e w' ⟨rfl, rfl⟩) | ((with_reducible refine (Q3.out _).mono ?_); rintro e w' ⟨rfl, rfl⟩)) | (go_at_call 43; (with_reducible refine (QB.out _).mono ?_); rintro e w' ⟨n, rfl, HM, rfl⟩))
    go_ret
    exact ⟨ret_i (by rw [HE.out]; rfl), rfl⟩
  rcases b3 with _ | _
  rotate_left
  · go_enter Tryz.func102, Tryz.ntmps102
    go_wp2
    refine wp_loop_rounds 5 ?_
    go_wp2_with (first | rw [rounds_succ] | (go_at_call 42; first | ((with_reducible refine (Q0.out _).mono ?_); rintro e w' ⟨rfl, rfl⟩) | ((with_reducible refine (Q1.out _).mono ?_); rintro e w' ⟨rfl, rfl⟩) | ((with_reducible refine (Q2.out _).mono ?_); rintro e w' ⟨rfl, rfl⟩) | ((with_reducible refine (Q3.out _).mono ?_); rintro e w' ⟨rfl, rfl⟩)) | (go_at_call 43; (with_reducible refine (QB.out _).mono ?_); rintro e w' ⟨n, rfl, HM, rfl⟩))
    go_ret
    exact ⟨ret_i (by rw [HE.out]; rfl), rfl⟩
  go_enter Tryz.func102, Tryz.ntmps102
  go_wp2
  refine wp_loop_rounds 5 ?_
  go_wp2_with (first | rw [rounds_succ] | (go_at_call 42; first | ((with_reducible refine (Q0.out _).mono ?_); rintro e w' ⟨rfl, rfl⟩) | ((with_reducible refine (Q1.out _).mono ?_); rintro e w' ⟨rfl, rfl⟩) | ((with_reducible refine (Q2.out _).mono ?_); rintro e w' ⟨rfl, rfl⟩) | ((with_reducible refine (Q3.out _).mono ?_); rintro e w' ⟨rfl, rfl⟩)) | (go_at_call 43; (with_reducible refine (QB.out _).mono ?_); rintro e w' ⟨n, rfl, HM, rfl⟩))
  · go_ret
    have h0 : 0 ≤ n := ‹_›
    exact ⟨ret_i (by rw [HE.out, HM.out, decide_eq_true h0]; rfl), rfl⟩
  · go_ret
    have h0 : ¬ 0 ≤ n := by omega
    exact ⟨ret_i (by rw [HE.out, HM.out, decide_eq_false h0]; rfl), rfl⟩
end Go.Proofs.YtgidnbkbmjjihaaGreatDoor
