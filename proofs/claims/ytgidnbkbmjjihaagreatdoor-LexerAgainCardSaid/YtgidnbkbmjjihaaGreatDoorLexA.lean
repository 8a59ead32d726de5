/- The lexer's small functions, walked: a letter, a digit, how many bytes of a kind stand at the front, large letters as small ones. -/
import Derived.Test.YtgidnbkbmjjihaaGreatDoorProg
import Derived.Test.YtgidnbkbmjjihaaGreatDoorLexSpec
import Derived.WalkKit
import Derived.WalkSpells
import Derived.WalkLawsBesides
import Derived.Lib.Hide
import Derived.Lib.ConvBytes
namespace Go.Proofs.YtgidnbkbmjjihaaGreatDoor
open Go.RowKit

theorem ret_b {a b : Bool} (h : a = b) : Ending.returned (.bool a) = .returned (.bool b) := by rw [h]
theorem ret_i {k : IntKind} {a b : Int} (h : a = b) : Ending.returned (.int k a) = .returned (.int k b) := by rw [h]

theorem digit_any (c : UInt8) (w : World) :
    Calls Tryz.prog 98 #[.int .u8 c.toNat] w fun e w' => e = .returned (.bool (Lex.isDigit c)) ∧ w = w' := by
  have hc := c.toNat_lt
  by_cases h1 : 48 ≤ (c.toNat : Int) <;> by_cases h2 : (c.toNat : Int) ≤ 57
  all_goals
    go_enter Tryz.func98, Tryz.ntmps98
    go_wp2
    go_ret
    refine ⟨ret_b ?_, rfl⟩
    unfold Lex.isDigit
    simp
    omega

theorem letter_any (c : UInt8) (w : World) :
    Calls Tryz.prog 95 #[.int .u8 c.toNat] w fun e w' => e = .returned (.bool (Lex.isLetter c)) ∧ w = w' := by
  have hc := c.toNat_lt
  by_cases h1 : 97 ≤ (c.toNat : Int) <;> by_cases h2 : (c.toNat : Int) ≤ 122 <;> by_cases h3 : 65 ≤ (c.toNat : Int) <;> by_cases h4 : (c.toNat : Int) ≤ 90 <;> by_cases h5 : (c.toNat : Int) = 95
  all_goals
    go_enter Tryz.func95, Tryz.ntmps95
    go_wp2
    go_ret
    refine ⟨ret_b ?_, rfl⟩
    unfold Lex.isLetter
    rw [Bool.eq_iff_iff]
    simp
    omega

/-- The kind that the lexer hands to run: a letter or a digit. -/
theorem wordByte_any (c : UInt8) (w : World) :
    Calls Tryz.prog 97 #[.int .u8 c.toNat] w fun e w' => e = .returned (.bool (Lex.isWordByte c)) ∧ w = w' := by
  by_cases h : Lex.isLetter c = true
  all_goals
    have HB : Hid (Lex.isWordByte c = (Lex.isLetter c || Lex.isDigit c)) := rfl
    go_enter Tryz.func97, Tryz.ntmps97
    go_wp2_with (first | (go_at_call 95; refine (letter_any _ _).mono ?_; rintro e w' ⟨rfl, rfl⟩) | (go_at_call 98; refine (digit_any _ _).mono ?_; rintro e w' ⟨rfl, rfl⟩))
    go_ret
    refine ⟨ret_b ?_, rfl⟩
    rw [HB.out]
    simp [h]

theorem takeWhile_step (p : UInt8 → Bool) (l : List UInt8) (k : Nat) (h : k < l.length) :
    (l.drop k).takeWhile p = if p l[k] then l[k] :: (l.drop (k + 1)).takeWhile p else [] := by
  rw [List.drop_eq_getElem_cons h, List.takeWhile_cons]

/-- run: how many bytes of a kind stand at the front; the kind is one of the two that the lexer hands to it. -/
theorem run_any (g : Nat) (hgs : g = 97 ∨ g = 98) (p : UInt8 → Bool) (hg : ∀ (c : UInt8) (w : World), Calls Tryz.prog g #[.int .u8 c.toNat] w fun e w' => e = .returned (.bool (p c)) ∧ w = w')
    (s : ByteArray) (w : World) (hs : s.size ≤ maxLen) :
    Calls Tryz.prog 96 #[.string s, .func (.func g) #[] #[]] w fun e w' => e = .returned (.int .i64 (s.data.toList.takeWhile p).length) ∧ w = w' := by
  unfold maxLen at hs
  have hl : s.data.toList.length = s.size := by rw [Array.length_toList]; rfl
  have HG := Lib.hid hg
  have HL := Lib.hid hl
  clear hg hl
  rcases hgs with rfl | rfl
  all_goals
    go_enter Tryz.func96, Tryz.ntmps96
    go_wp2
    go_loop [5] (fun i => ∃ k : Nat, k ≤ s.size ∧ i = .int .i64 k ∧ Hid ((s.data.toList.takeWhile p).length = k + ((s.data.toList.drop k).takeWhile p).length)) (fun i => s.size - (intOf i).toNat)
    case atStart => exact ⟨0, Nat.zero_le _, rfl, by show _ = _; simp⟩
    case round =>
      obtain ⟨k, hk, rfl, HR⟩ := hrel
      by_cases hlt : k < s.size
      · have HS := Lib.hid (takeWhile_step p s.data.toList k (by rw [HL.out]; exact hlt))
        have HP : Hid (s.data.toList[k]'(by rw [HL.out]; exact hlt) = s[k]) := rfl
        have HC : Hid (∀ w : World, Calls Tryz.prog _ #[.int .u8 s[k].toNat] w fun e w' => e = .returned (.bool (p s[k])) ∧ w = w') := fun w => HG.out _ w
        rcases hq : p s[k] with _ | _
        · rw [hq] at HC
          have HQ := Lib.hid hq
          clear hq
          go_wp2_with ((with_reducible refine (HC.out _).mono ?_); rintro e w' ⟨rfl, rfl⟩)
          go_ret
          refine ⟨ret_i ?_, rfl⟩
          rw [HR.out, HS.out, HP.out, if_neg (by simp [HQ.out])]
          simp
        · rw [hq] at HC
          have HQ := Lib.hid hq
          clear hq
          go_wp2_with ((with_reducible refine (HC.out _).mono ?_); rintro e w' ⟨rfl, rfl⟩)
          go_round
          case rel =>
            refine ⟨k + 1, by omega, by go_num, ?_⟩
            show _ = _
            rw [HR.out, HS.out, HP.out, if_pos HQ.out, List.length_cons]
            omega
          case measure => simp [intOf]; omega
      · go_wp2
        go_ret
        refine ⟨ret_i ?_, rfl⟩
        rw [HR.out, List.drop_of_length_le (by rw [HL.out]; omega)]
        simp

theorem bytes_toList (l : List UInt8) : (⟨l.toArray⟩ : ByteArray).data.toList = l := rfl
end Go.Proofs.YtgidnbkbmjjihaaGreatDoor
