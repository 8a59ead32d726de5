/- The token at the front, walked: words, numbers, blobs. -/
import Derived.Test.YtgidnbkbmjjihaaGreatDoorLexI
namespace Go.Proofs.YtgidnbkbmjjihaaGreatDoor
open Go.RowKit

theorem extract_tail (s : ByteArray) : (s.extract 1 s.size).data.toList = s.data.toList.drop 1 := by
  rw [Lib.extract_data, List.take_of_length_le (by rw [List.length_drop, toList_length]; exact Nat.le_refl _)]
theorem extract_head (s : ByteArray) (n : Nat) : (s.extract 0 n).data.toList = s.data.toList.take n := by
  rw [Lib.extract_data]; simp

theorem quote_at (s : ByteArray) (b : Bool) (h : decide ((s.data.toList.drop 1).head? = some 39) = b) :
    Hid (∀ W : World, Calls Tryz.prog 42 #[.string (s.extract 1 s.size), .string ⟨#[39]⟩] W fun e w' => e = .returned (.bool b) ∧ W = w') := fun W => by
  have hp := Tryz.strings_HasPrefix (s.extract 1 s.size) ⟨#[39]⟩ W
  rw [extract_tail, bytes_toList] at hp
  have e : Lib.hasPrefix (s.data.toList.drop 1) [39] = b := by
    rw [← h]
    unfold Lib.hasPrefix
    cases s.data.toList.drop 1 with
    | nil => rfl
    | cons a r =>
      simp only [List.isPrefixOf, Bool.and_true, List.head?_cons, Option.some.injEq]
      by_cases ha : a = 39
      · subst ha; rfl
      · rw [decide_eq_false ha]; simpa using fun e => ha e.symm
  rw [e] at hp
  exact hp.mono fun _ _ ⟨h1, h2⟩ => ⟨h1, h2.symm⟩

def wordOf (s : ByteArray) : List UInt8 := s.data.toList.takeWhile Lex.isWordByte
def digitsOf (s : ByteArray) : List UInt8 := s.data.toList.takeWhile Lex.isDigit

set_option maxHeartbeats 2000000 in
/-- A word. -/
theorem token_word (s : ByteArray) (w : World) (h1 : 1 ≤ s.size) (hs : s.size ≤ 16384) (hc : Lex.isLetter s[0] = true) (hq : ¬ ((s[0] = 120 ∨ s[0] = 88) ∧ (s.data.toList.drop 1).head? = some 39)) :
    Calls Tryz.prog 44 #[.string s] w fun e w' => e = .returned (.tuple #[tokV ⟨1, (wordOf s).map Lex.lowerB, 0, 0⟩, .int .i64 (wordOf s).length]) ∧ Below w.heap.size w w' := by
  have HL := letter_at s[0] true hc
  have hlen : (wordOf s).length ≤ s.size := by
    have := Lex.takeWhile_le Lex.isWordByte s.data.toList
    rw [toList_length] at this
    exact this
  have HR := Lib.hid (run_any 97 (.inl rfl) Lex.isWordByte wordByte_any s · (by unfold maxLen; omega))
  have HW : ∀ W, Hid (Calls Tryz.prog 99 #[.string (s.extract 0 (wordOf s).length)] W fun e w' => e = .returned (.string ⟨((wordOf s).map Lex.lowerB).toArray⟩) ∧ Below W.heap.size W w') := fun W => by
    have h := lowered_any (s.extract 0 (wordOf s).length) W (by rw [ByteArray.size_extract]; unfold maxLen; omega)
    rw [extract_head] at h
    have e : s.data.toList.take (wordOf s).length = wordOf s := by
      have h1 := List.takeWhile_append_dropWhile (p := Lex.isWordByte) (l := s.data.toList)
      have h2 := List.take_left (l₁ := s.data.toList.takeWhile Lex.isWordByte) (l₂ := s.data.toList.dropWhile Lex.isWordByte)
      rw [h1] at h2
      exact h2
    rw [e] at h
    exact Lib.hid h
  rw [show s.data.toList.takeWhile Lex.isWordByte = wordOf s from rfl] at HR
  have HP : (s[0] = 120 ∨ s[0] = 88) → Hid (∀ W : World, Calls Tryz.prog 42 #[.string (s.extract 1 s.size), .string ⟨#[39]⟩] W fun e w' => e = .returned (.bool false) ∧ W = w') := fun h => quote_at s false (decide_eq_false fun e => hq ⟨h, e⟩)
  generalize wordOf s = wd at *
  obtain ⟨n, HN⟩ : ∃ n, Hid (wd.length = n) := ⟨_, rfl⟩
  rw [HN.out] at HR HW hlen ⊢
  have tt : (((s[0].toNat : Int) == 120) = true ∨ ((s[0].toNat : Int) == 120) = false ∧ ((s[0].toNat : Int) == 88) = true) ∧ Hid (∀ W : World, Calls Tryz.prog 42 #[.string (s.extract 1 s.size), .string ⟨#[39]⟩] W fun e w' => e = .returned (.bool false) ∧ W = w') ∨ ((s[0].toNat : Int) == 120) = false ∧ ((s[0].toNat : Int) == 88) = false := by
    by_cases a : s[0] = 120
    · exact .inl ⟨.inl (by rw [a]; rfl), HP (.inl a)⟩
    by_cases b : s[0] = 88
    · exact .inl ⟨.inr ⟨by rw [b]; rfl, by rw [b]; rfl⟩, HP (.inr b)⟩
    refine .inr ⟨?_, ?_⟩
    · cases h : ((s[0].toNat : Int) == 120) with
      | false => rfl
      | true => exact absurd (byte_eq (n := 120) (by decide) h) a
    · cases h : ((s[0].toNat : Int) == 88) with
      | false => rfl
      | true => exact absurd (byte_eq (n := 88) (by decide) h) b
  clear hc hq HP
  rcases tt with ⟨t1 | ⟨t1, t2⟩, HP⟩ | ⟨t1, t2⟩
  all_goals
    go_enter Tryz.func44, Tryz.ntmps44
    go_wp2_with (first | (go_at_call 42; (with_reducible refine (HP.out _).mono ?_); rintro e w1 ⟨rfl, rfl⟩) | (go_at_call 95; (with_reducible refine (HL.out _).mono ?_); rintro e w1 ⟨rfl, rfl⟩) | (go_at_call 96; (with_reducible refine (HR.out _).mono ?_); rintro e w1 ⟨rfl, rfl⟩) | (go_at_call 99; (with_reducible refine (HW _).out.mono ?_); rintro e w1 ⟨rfl, h2⟩; obtain ⟨hcl, hfz⟩ := bcell h2; have H2 := Lib.hid h2; clear h2))
    have hb := (two_new w (.cells #[.int .i64 0, .string ⟨#[]⟩, .int .i64 0, .int .i64 0] 30) (.cells #[.int .i64 0, .string ⟨#[]⟩, .int .i64 0, .int .i64 0] 30)).1
    rw [← H2.out.block _ (by simp; omega)] at hb
    refine tok_ret (g := w.heap.size) rfl rfl rfl ?_ ⟨rfl, ?_⟩
    · simp [World.setCell, Array.getElem?_modify, hb]
    · repeat refine Below.setCell ?_ (by simp) _
      exact (((Below.refl _ _).alloc (Nat.le_refl _) _).alloc (by simp) _).trans (H2.out.mono (by simp; omega))
end Go.Proofs.YtgidnbkbmjjihaaGreatDoor
