/- The token at the front, walked: numbers, blobs, symbols; and all kinds in one statement. -/
import Derived.Test.YtgidnbkbmjjihaaGreatDoorLexJ
namespace Go.Proofs.YtgidnbkbmjjihaaGreatDoor
open Go.RowKit

theorem bytesWorld_below (w : World) (t : TypeId) (s : ByteArray) : Below w.heap.size w (Lib.bytesWorld w t s) :=
  ⟨rfl, rfl, rfl, by rw [Lib.bytesWorld_size]; omega, fun k hk => Lib.bytesWorld_at_old w _ s k hk⟩

theorem mem_takeWhile_imp (p : UInt8 → Bool) (l : List UInt8) : ∀ c ∈ l.takeWhile p, p c = true := by
  induction l with
  | nil => intro c hc; simp at hc
  | cons a l ih =>
    intro c hc
    rw [List.takeWhile_cons] at hc
    split at hc
    · rcases List.mem_cons.1 hc with e | e
      · subst e; assumption
      · exact ih c e
    · simp at hc

theorem digitsOf_all (s : ByteArray) : ∀ c ∈ digitsOf s, Lex.isDigit c = true := mem_takeWhile_imp _ _

theorem take_digits (s : ByteArray) : s.data.toList.take (digitsOf s).length = digitsOf s := by
  have h1 := List.takeWhile_append_dropWhile (p := Lex.isDigit) (l := s.data.toList)
  have h2 := List.take_left (l₁ := s.data.toList.takeWhile Lex.isDigit) (l₂ := s.data.toList.dropWhile Lex.isDigit)
  rw [h1] at h2
  exact h2

theorem digit_not (c : UInt8) (h : Lex.isDigit c = true) : Lex.isLetter c = false ∧ ((c.toNat : Int) == 120) = false ∧ ((c.toNat : Int) == 88) = false := by
  simp only [Lex.isDigit, Bool.and_eq_true, decide_eq_true_eq] at h
  refine ⟨?_, ?_, ?_⟩
  · simp only [Lex.isLetter, Bool.or_eq_false_iff, Bool.and_eq_false_iff, decide_eq_false_iff_not]; omega
  · simp; omega
  · simp; omega

/-- A number, as ParseInt tells it. -/
theorem parse_at (s : ByteArray) (hs : s.size ≤ 16384) (hd : Lex.isDigit (s.data.toList.headD 0) = true) :
    ∀ W, Laid W → Hid (Calls Tryz.prog 100 #[.string (s.extract 0 (digitsOf s).length), .int .i64 10, .int .i64 64] W fun e w' =>
      (if Lex.numOf (digitsOf s) < 9223372036854775808 then e = .returned (.tuple #[.int .i64 (Lex.numOf (digitsOf s)), .nilIface]) else ∃ x p, e = .returned (.tuple #[.int .i64 x, .iface 315 p])) ∧ Below W.heap.size W w') := fun W hL => by
  have hne : digitsOf s ≠ [] := by
    unfold digitsOf
    cases h : s.data.toList with
    | nil => rw [h] at hd; simp [Lex.isDigit] at hd
    | cons a r => rw [h] at hd; simp only [List.headD_cons] at hd; simp [hd]
  have hp := parse_digits (digitsOf s) (digitsOf_all s) hne
  have he : (s.extract 0 (digitsOf s).length).data.toList = digitsOf s := by rw [extract_head, take_digits]
  have hsz : (s.extract 0 (digitsOf s).length).size ≤ 16384 := by rw [ByteArray.size_extract]; omega
  by_cases hn : Lex.numOf (digitsOf s) < 9223372036854775808
  · rw [if_pos hn] at hp
    simp only [if_pos hn]
    refine Lib.hid ((Tryz.strconv_ParseInt_10_at64_ok (s.extract 0 (digitsOf s).length) (by omega) _ (by rw [he]; exact hp) W).mono ?_)
    rintro e w' ⟨rfl, h⟩
    refine ⟨rfl, ?_⟩
    rcases h with rfl | ⟨t, rfl⟩
    · exact Below.refl _ _
    · exact bytesWorld_below _ _ _
  · rw [if_neg hn] at hp
    simp only [if_neg hn]
    obtain ⟨te, pe, hse⟩ := hL.rng
    refine Lib.hid ((Tryz.strconv_ParseInt_10_at64_range (s.extract 0 (digitsOf s).length) (by omega) (by rw [he]; exact hp) (.iface te pe) W hse (.inr ⟨te, pe, rfl⟩)).mono ?_)
    rintro e w' ⟨N, rfl, _, _, h⟩
    exact ⟨⟨_, _, rfl⟩, h⟩

set_option maxHeartbeats 2000000 in
/-- A number that is not too great. -/
theorem token_int (s : ByteArray) (w : World) (h1 : 1 ≤ s.size) (hs : s.size ≤ 16384) (hc : Lex.isDigit s[0] = true) (hL : Laid w) :
    Calls Tryz.prog 44 #[.string s] w fun e w' => (if Lex.numOf (digitsOf s) < 9223372036854775808 then e = .returned (.tuple #[tokV ⟨2, [], 0, Lex.numOf (digitsOf s)⟩, .int .i64 (digitsOf s).length]) else e = .returned (.tuple #[tokV ⟨0, [], 0, 0⟩, .int .i64 0])) ∧ Below w.heap.size w w' := by
  obtain ⟨hnl, t1, t2⟩ := digit_not _ hc
  have HL := letter_at s[0] false hnl
  have HD := digit_at s[0] true hc
  have hlen : (digitsOf s).length ≤ s.size := by
    have := Lex.takeWhile_le Lex.isDigit s.data.toList
    rw [toList_length] at this
    exact this
  have HR := Lib.hid (run_any 98 (.inr rfl) Lex.isDigit digit_any s · (by unfold maxLen; omega))
  rw [show s.data.toList.takeWhile Lex.isDigit = digitsOf s from rfl] at HR
  have hP := parse_at s hs (by
    have := drop_get s 0 (by omega)
    rw [List.drop_zero] at this
    rw [this]; exact hc)
  have hL2 : ∀ W, Below w.heap.size w W → Laid W := fun W h => hL.below (Nat.le_refl _) h
  obtain ⟨n, HN⟩ : ∃ n, Hid ((digitsOf s).length = n) := ⟨_, rfl⟩
  obtain ⟨q, HQ⟩ : ∃ q, Hid (Lex.numOf (digitsOf s) = q) := ⟨_, rfl⟩
  have hPW : ∀ W, Below w.heap.size w W → Hid (Calls Tryz.prog 100 #[.string (s.extract 0 n), .int .i64 10, .int .i64 64] W fun e w' =>
      (if q < 9223372036854775808 then e = .returned (.tuple #[.int .i64 q, .nilIface]) else ∃ x p, e = .returned (.tuple #[.int .i64 x, .iface 315 p])) ∧ Below W.heap.size W w') := fun W h => by
    rw [← HN.out, ← HQ.out]; exact hP W (hL2 W h)
  rw [HN.out] at HR hlen
  rw [HN.out, HQ.out]
  have HB0 := Lib.hid ((((Below.refl w.heap.size w).alloc (Nat.le_refl _) (.cells #[.int .i64 0, .string ⟨#[]⟩, .int .i64 0, .int .i64 0] 30)).alloc (by simp) (.cells #[.int .i64 0, .string ⟨#[]⟩, .int .i64 0, .int .i64 0] 30)))
  have HP := Lib.hid (hPW _ HB0.out)
  clear hc hnl hL hL2 hP hPW
  by_cases hq : q < 9223372036854775808
  · simp only [if_pos hq] at HP ⊢
    have HQQ := Lib.hid hq
    clear hq
    go_enter Tryz.func44, Tryz.ntmps44
    go_wp2_with (first | (go_at_call 95; (with_reducible refine (HL.out _).mono ?_); rintro e w1 ⟨rfl, rfl⟩) | (go_at_call 98; (with_reducible refine (HD.out _).mono ?_); rintro e w1 ⟨rfl, rfl⟩) | (go_at_call 96; (with_reducible refine (HR.out _).mono ?_); rintro e w1 ⟨rfl, rfl⟩) | (go_at_call 100; (with_reducible refine HP.out.out.mono ?_); rintro e w1 ⟨rfl, h2⟩; obtain ⟨hcl, hfz⟩ := bcell h2; have H2 := Lib.hid h2; clear h2))
    have hb := (two_new w (.cells #[.int .i64 0, .string ⟨#[]⟩, .int .i64 0, .int .i64 0] 30) (.cells #[.int .i64 0, .string ⟨#[]⟩, .int .i64 0, .int .i64 0] 30)).1
    rw [← H2.out.block _ (by simp; omega)] at hb
    refine tok_ret (g := w.heap.size) rfl rfl rfl ?_ ⟨rfl, ?_⟩
    · simp [World.setCell, Array.getElem?_modify, hb]
    · repeat refine Below.setCell ?_ (by simp) _
      exact HB0.out.trans (H2.out.mono (by simp; omega))
  · simp only [if_neg hq] at HP ⊢
    have HQQ := Lib.hid hq
    clear hq
    go_enter Tryz.func44, Tryz.ntmps44
    go_wp2_with (first | (go_at_call 95; (with_reducible refine (HL.out _).mono ?_); rintro e w1 ⟨rfl, rfl⟩) | (go_at_call 98; (with_reducible refine (HD.out _).mono ?_); rintro e w1 ⟨rfl, rfl⟩) | (go_at_call 96; (with_reducible refine (HR.out _).mono ?_); rintro e w1 ⟨rfl, rfl⟩) | (go_at_call 100; (with_reducible refine HP.out.out.mono ?_); rintro e w1 ⟨⟨x, p, rfl⟩, h2⟩; obtain ⟨hcl, hfz⟩ := bcell h2; have H2 := Lib.hid h2; clear h2))
    have hb := (two_new w (.cells #[.int .i64 0, .string ⟨#[]⟩, .int .i64 0, .int .i64 0] 30) (.cells #[.int .i64 0, .string ⟨#[]⟩, .int .i64 0, .int .i64 0] 30)).1
    rw [← H2.out.block _ (by simp; omega)] at hb
    refine tok_ret (g := w.heap.size) rfl rfl rfl ?_ ⟨rfl, ?_⟩
    · simp [World.setCell, Array.getElem?_modify, hb]
    · repeat refine Below.setCell ?_ (by simp) _
      exact HB0.out.trans (H2.out.mono (by simp; omega))

theorem blobAns_le (s : ByteArray) : (blobAns s).2 ≤ s.size := by
  unfold blobAns Lex.blobOf
  simp only []
  split
  · rename_i p hp
    split at hp
    · rename_i hlt
      simp at hp
      obtain ⟨a, _, hp⟩ := hp
      rw [← hp]
      have := toList_length s
      simp at hlt ⊢
      omega
    · cases hp
  · exact Nat.zero_le _

set_option maxHeartbeats 2000000 in
/-- A blob. -/
theorem token_blob (s : ByteArray) (w : World) (h1 : 2 ≤ s.size) (hs : s.size ≤ 16384) (hc : s[0] = 120 ∨ s[0] = 88) (hq : (s.data.toList.drop 1).head? = some 39) (hL : Laid w) :
    Calls Tryz.prog 44 #[.string s] w fun e w' => e = .returned (.tuple #[tokV ⟨4, (blobAns (s.extract 1 s.size)).1, 0, 0⟩, .int .i64 (if 0 < (blobAns (s.extract 1 s.size)).2 then (blobAns (s.extract 1 s.size)).2 + 1 else 0 : Nat)]) ∧ Below w.heap.size w w' := by
  have HP := quote_at s true (decide_eq_true hq)
  have tt : ((s[0].toNat : Int) == 120) = true ∨ ((s[0].toNat : Int) == 120) = false ∧ ((s[0].toNat : Int) == 88) = true := by
    rcases hc with a | a
    · exact .inl (by rw [a]; rfl)
    · exact .inr ⟨by rw [a]; rfl, by rw [a]; rfl⟩
  have HB0 := Lib.hid ((((Below.refl w.heap.size w).alloc (Nat.le_refl _) (.cells #[.int .i64 0, .string ⟨#[]⟩, .int .i64 0, .int .i64 0] 30)).alloc (by simp) (.cells #[.int .i64 4, .string ⟨#[]⟩, .int .i64 0, .int .i64 0] 30)))
  have HB := Lib.hid (blob_any (s.extract 1 s.size) _ (by rw [ByteArray.size_extract]; omega) (by rw [ByteArray.size_extract]; omega) (hL.below (Nat.le_refl _) HB0.out))
  have hnb : (blobAns (s.extract 1 s.size)).2 ≤ 16384 := by
    have := blobAns_le (s.extract 1 s.size)
    rw [ByteArray.size_extract] at this
    omega
  generalize (blobAns (s.extract 1 s.size)).1 = tx at HB ⊢
  generalize (blobAns (s.extract 1 s.size)).2 = n at HB hnb ⊢
  clear hc hq hL
  by_cases hn : 0 < n
  all_goals
    rcases tt with t1 | ⟨t1, t2⟩
    all_goals
      go_enter Tryz.func44, Tryz.ntmps44
      go_wp2_with (first | (go_at_call 42; (with_reducible refine (HP.out _).mono ?_); rintro e w1 ⟨rfl, rfl⟩) | (go_at_call 94; (with_reducible refine HB.out.mono ?_); rintro e w1 ⟨rfl, h2⟩; obtain ⟨hcl, hfz⟩ := bcell h2; have H2 := Lib.hid h2; clear h2))
      have hb := (two_new w (.cells #[.int .i64 0, .string ⟨#[]⟩, .int .i64 0, .int .i64 0] 30) (.cells #[.int .i64 4, .string ⟨#[]⟩, .int .i64 0, .int .i64 0] 30)).1
      rw [← H2.out.block _ (by simp; omega)] at hb
      refine tok_ret (g := w.heap.size) (c0 := .int .i64 4) (c1 := .string ⟨tx.toArray⟩) (c2 := .int .i64 0) (c3 := .int .i64 0) rfl rfl rfl ?_ ⟨?_, ?_⟩
      · simp [World.setCell, Array.getElem?_modify, hb]
      · first | rfl | exact (by have e : n = 0 := (by omega); subst e; rfl)
      · repeat refine Below.setCell ?_ (by simp) _
        exact HB0.out.trans (H2.out.mono (by simp; omega))

set_option maxHeartbeats 2000000 in
/-- A symbol. -/
theorem token_symbol (s : ByteArray) (w : World) (h1 : 1 ≤ s.size) (hs : s.size ≤ 16384) (hl : Lex.isLetter s[0] = false) (hd : Lex.isDigit s[0] = false) (hc : ¬ s[0] = 39) :
    Calls Tryz.prog 44 #[.string s] w fun e w' => e = .returned (.tuple #[tokV ⟨5, s.data.toList.take (Lex.symLen s.data.toList), 0, 0⟩, .int .i64 (Lex.symLen s.data.toList)]) ∧ Below w.heap.size w w' := by
  have HL := letter_at s[0] false hl
  have HD := digit_at s[0] false hd
  have HS := Lib.hid (symbol_any s · h1)
  have hle : Lex.symLen s.data.toList ≤ s.size := by
    have := Lex.symLen_le s.data.toList
    rw [toList_length] at this
    exact this
  have t1 : ((s[0].toNat : Int) == 120) = false := by
    cases h : ((s[0].toNat : Int) == 120) with
    | false => rfl
    | true => have := byte_eq (n := 120) (by decide) h; rw [this] at hl; exact absurd hl (by decide)
  have t2 : ((s[0].toNat : Int) == 88) = false := by
    cases h : ((s[0].toNat : Int) == 88) with
    | false => rfl
    | true => have := byte_eq (n := 88) (by decide) h; rw [this] at hl; exact absurd hl (by decide)
  have t3 : ((s[0].toNat : Int) == 39) = false := by
    cases h : ((s[0].toNat : Int) == 39) with
    | false => rfl
    | true => exact absurd (byte_eq (n := 39) (by decide) h) hc
  have hx : Hid ((⟨(s.data.toList.take (Lex.symLen s.data.toList)).toArray⟩ : ByteArray) = s.extract 0 (Lex.symLen s.data.toList)) := by
    show _ = _
    rw [← extract_head]
  unfold tokV
  simp only []
  rw [hx.out]
  generalize Lex.symLen s.data.toList = n at *
  clear hl hd hc hx
  go_enter Tryz.func44, Tryz.ntmps44
  go_wp2_with (first | (go_at_call 95; (with_reducible refine (HL.out _).mono ?_); rintro e w1 ⟨rfl, rfl⟩) | (go_at_call 98; (with_reducible refine (HD.out _).mono ?_); rintro e w1 ⟨rfl, rfl⟩) | (go_at_call 102; (with_reducible refine (HS.out _).mono ?_); rintro e w1 ⟨rfl, rfl⟩))
  go_region
  all_goals go_wp2
  refine tok_ret (g := w.heap.size) (c0 := .int .i64 5) (c1 := .string (s.extract 0 n)) (c2 := .int .i64 0) (c3 := .int .i64 0) rfl rfl rfl ?_ ⟨rfl, ?_⟩
  · exact (two_new w _ _).1
  · exact Below.drew (((Below.refl _ _).alloc (Nat.le_refl _) _).alloc (by simp) _)

/-- What token answers, whatever stands there. -/
theorem token_any (s : ByteArray) (w : World) (h1 : 1 ≤ s.size) (hs : s.size ≤ 16384) (hL : Laid w) :
    Calls Tryz.prog 44 #[.string s] w (TokPost s w) := by
  have h0 := drop_get s 0 (by omega)
  rw [List.drop_zero, show 0 + 1 = 1 from rfl] at h0
  unfold TokPost
  rw [h0]
  simp only [Lex.tok]
  rw [← h0]
  by_cases hb : (s[0] = 120 ∨ s[0] = 88) ∧ (s.data.toList.drop 1).head? = some 39
  · rw [if_pos hb]
    have h2 : 2 ≤ s.size := by
      rcases Nat.lt_or_ge 1 s.size with h | h
      · exact h
      · have := hb.2
        rw [List.drop_of_length_le (by rw [toList_length]; exact h)] at this
        cases this
    refine (token_blob s w h2 hs hb.1 hb.2 hL).mono ?_
    rintro e w' ⟨rfl, hbl⟩
    refine ⟨?_, hbl⟩
    have he := extract_tail s
    unfold blobAns
    rw [he]
    cases ht : Lex.blobOf (s.data.toList.drop 1) with
    | none => exact ⟨_, rfl⟩
    | some p =>
      have hp : 0 < p.2 := by
        unfold Lex.blobOf at ht
        simp only [] at ht
        split at ht
        · simp at ht
          obtain ⟨a, _, ht⟩ := ht
          rw [← ht]
          simp
        · cases ht
      simp only [Option.map_some, if_pos hp]
  rw [if_neg hb]
  by_cases hl : Lex.isLetter s[0] = true
  · rw [if_pos hl]
    exact token_word s w h1 hs hl hb
  rw [if_neg hl]
  have hl' : Lex.isLetter s[0] = false := by simpa using hl
  by_cases hd : Lex.isDigit s[0] = true
  · rw [if_pos hd]
    refine (token_int s w h1 hs hd hL).mono ?_
    rintro e w' ⟨he, hbl⟩
    refine ⟨?_, hbl⟩
    unfold digitsOf at he
    by_cases hn : Lex.numOf (s.data.toList.takeWhile Lex.isDigit) < 9223372036854775808
    · rw [if_pos hn] at he ⊢
      exact he
    · rw [if_neg hn] at he ⊢
      exact ⟨_, he⟩
  rw [if_neg hd]
  have hd' : Lex.isDigit s[0] = false := by simpa using hd
  by_cases hc : s[0] = 39
  · rw [if_pos hc]
    refine (token_text s w h1 hs hc).mono ?_
    rintro e w' ⟨rfl, hbl⟩
    refine ⟨?_, hbl⟩
    unfold textAns
    cases ht : Lex.textGo (s.data.toList.drop 1) with
    | none => exact ⟨_, rfl⟩
    | some p => rfl
  rw [if_neg hc]
  refine (token_symbol s w h1 hs hl' hd' hc).mono ?_
  rintro e w' ⟨rfl, hbl⟩
  refine ⟨?_, hbl⟩
  by_cases hy : Lex.symLen s.data.toList = 0
  · rw [if_pos hy, hy]
    exact ⟨_, rfl⟩
  · rw [if_neg hy]
end Go.Proofs.YtgidnbkbmjjihaaGreatDoor
