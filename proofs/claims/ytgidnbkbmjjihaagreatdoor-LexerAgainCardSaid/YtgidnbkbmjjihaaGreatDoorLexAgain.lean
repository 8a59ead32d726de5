/- The words of a text, written with a blank behind each, are the same words, but for their places: the plain law. -/
import Derived.Test.YtgidnbkbmjjihaaGreatDoorLexBlanks
import Derived.Lib.ItoaNum
namespace Go.Proofs.YtgidnbkbmjjihaaGreatDoor
namespace Lex
open Go.Lib (decDigits)

def quote (l : List UInt8) : List UInt8 := l.flatMap fun c => if c = 39 then [39, 39] else [c]
def hexD (n : Nat) : UInt8 := if n < 10 then UInt8.ofNat (48 + n) else UInt8.ofNat (55 + n)
def hexOf (l : List UInt8) : List UInt8 := l.flatMap fun c => [hexD (c.toNat / 16), hexD (c.toNat % 16)]

/-- A word as it is written. -/
def printTok (t : Tok) : List UInt8 :=
  if t.kind = 1 ∨ t.kind = 5 then t.text
  else if t.kind = 2 then Go.Lib.itoa t.int
  else if t.kind = 3 then 39 :: quote t.text ++ [39]
  else if t.kind = 4 then 88 :: 39 :: hexOf t.text ++ [39]
  else []

def Good (t : Tok) : Prop := (∀ rest, tok (printTok t ++ 32 :: rest) = some ({ t with at_ := 0 }, (printTok t).length)) ∧
  ∃ c r, printTok t = c :: r ∧ isBlank c = false ∧ (c = 45 → r = [])

theorem takeWhile_all {p : UInt8 → Bool} {l : List UInt8} {c : UInt8} {r : List UInt8} (h : ∀ x ∈ l, p x = true) (hc : p c = false) : (l ++ c :: r).takeWhile p = l := by
  induction l with
  | nil => simp [hc]
  | cons a l ih =>
    rw [List.cons_append, List.takeWhile_cons, if_pos (h a (by simp)), ih (fun x hx => h x (by simp [hx]))]

theorem takeWhile_mem {p : UInt8 → Bool} {l : List UInt8} : ∀ x ∈ l.takeWhile p, p x = true := by
  induction l with
  | nil => intro x hx; cases hx
  | cons a l ih =>
    intro x hx
    rw [List.takeWhile_cons] at hx
    split at hx
    · rcases List.mem_cons.1 hx with rfl | hx
      · assumption
      · exact ih x hx
    · cases hx

theorem byte_all (p : UInt8 → Prop) [DecidablePred p] (h : ∀ n : Fin 256, p (UInt8.ofNat n)) (c : UInt8) : p c := by
  have := h ⟨c.toNat, c.toNat_lt⟩
  simpa using this

theorem lower_word (c : UInt8) : isWordByte c = true → isWordByte (lowerB c) = true := by
  revert c; exact byte_all _ (by decide +kernel)
theorem lower_letter (c : UInt8) : isLetter c = true → isLetter (lowerB c) = true := by
  revert c; exact byte_all _ (by decide +kernel)
theorem lower_lower (c : UInt8) : lowerB (lowerB c) = lowerB c := by
  revert c; exact byte_all _ (by decide +kernel)
theorem word_not_quote (c : UInt8) : isWordByte c = true → c ≠ 39 := by
  revert c; exact byte_all _ (by decide +kernel)
theorem letter_word (c : UInt8) : isLetter c = true → isWordByte c = true := by
  revert c; exact byte_all _ (by decide +kernel)
theorem letter_not_blank (c : UInt8) : isLetter c = true → isBlank c = false ∧ c ≠ 45 := by
  revert c; exact byte_all _ (by decide +kernel)
theorem digit_facts (c : UInt8) : isDigit c = true → isLetter c = false ∧ c ≠ 120 ∧ c ≠ 88 ∧ isBlank c = false ∧ c ≠ 45 := by
  revert c; exact byte_all _ (by decide +kernel)
theorem hexD_facts (n : Fin 16) : hexVal (hexD n) = some n.val ∧ hexD n ≠ 39 := by
  revert n; decide +kernel
theorem hex_back (c : UInt8) : UInt8.ofNat (c.toNat / 16 * 16 + c.toNat % 16) = c := by
  revert c; exact byte_all _ (by decide +kernel)

theorem hexVal_D {n : Nat} (h : n < 16) : hexVal (hexD n) = some n := (hexD_facts ⟨n, h⟩).1
theorem hexD_ne {n : Nat} (h : n < 16) : hexD n ≠ 39 := (hexD_facts ⟨n, h⟩).2

theorem hexPairs_hexOf (l : List UInt8) : hexPairs (hexOf l) = some l := by
  induction l with
  | nil => rfl
  | cons c l ih =>
    have h1 : c.toNat / 16 < 16 := by have := c.toNat_lt; omega
    have h2 : c.toNat % 16 < 16 := by omega
    show hexPairs (hexD (c.toNat / 16) :: hexD (c.toNat % 16) :: hexOf l) = _
    simp only [hexPairs, hexVal_D h1, hexVal_D h2, ih, Option.map_some, hex_back]

theorem hexOf_ne (l : List UInt8) : ∀ x ∈ hexOf l, (x != 39) = true := by
  intro x hx
  obtain ⟨c, _, hc⟩ := List.mem_flatMap.1 hx
  have h1 : c.toNat / 16 < 16 := by have := c.toNat_lt; omega
  have h2 : c.toNat % 16 < 16 := by omega
  simp only [List.mem_cons, List.not_mem_nil, or_false] at hc
  rcases hc with rfl | rfl
  · simpa using hexD_ne h1
  · simpa using hexD_ne h2

theorem textGo_quote (l rest : List UInt8) : textGo (quote l ++ 39 :: 32 :: rest) = some (l, (quote l).length + 1) := by
  induction l with
  | nil => simp [quote, textGo]
  | cons c l ih =>
    by_cases hc : c = 39
    · subst hc
      have e : quote (39 :: l) = 39 :: 39 :: quote l := by simp [quote]
      rw [e, List.cons_append, List.cons_append]
      simp only [textGo, if_true, ih, Option.map_some, List.length_cons]
    · have e : quote (c :: l) = c :: quote l := by simp [quote, hc]
      rw [e, List.cons_append]
      have hne : ∃ d r, quote l ++ 39 :: 32 :: rest = d :: r := by
        cases hq : quote l with
        | nil => exact ⟨_, _, rfl⟩
        | cons d r => exact ⟨_, _, rfl⟩
      obtain ⟨d, r, hd⟩ := hne
      rw [hd] at ih ⊢
      simp only [textGo, if_neg hc, ih, Option.map_some, List.length_cons]

theorem numOf_append (l : List UInt8) (c : UInt8) : numOf (l ++ [c]) = numOf l * 10 + (c.toNat - 48) := by
  simp [numOf, List.foldl_append]

theorem dec_facts (m : Nat) : ∀ n, n ≤ m → numOf (decDigits n) = n ∧ (∀ x ∈ decDigits n, isDigit x = true) ∧ decDigits n ≠ [] := by
  induction m with
  | zero =>
    intro n hn
    obtain rfl : n = 0 := by omega
    rw [decDigits, dif_pos (by decide)]
    exact ⟨by decide, by decide, by decide⟩
  | succ m ih =>
    intro n hn
    have hdig : ∀ d, d < 10 → isDigit (UInt8.ofNat (48 + d)) = true ∧ (UInt8.ofNat (48 + d)).toNat - 48 = d := by
      intro d hd
      have : d = 0 ∨ d = 1 ∨ d = 2 ∨ d = 3 ∨ d = 4 ∨ d = 5 ∨ d = 6 ∨ d = 7 ∨ d = 8 ∨ d = 9 := by omega
      rcases this with rfl | rfl | rfl | rfl | rfl | rfl | rfl | rfl | rfl | rfl <;> decide
    by_cases h : n < 10
    · rw [decDigits, dif_pos h]
      refine ⟨?_, ?_, by simp⟩
      · show 0 * 10 + ((UInt8.ofNat (48 + n)).toNat - 48) = n
        rw [(hdig n h).2]; omega
      · intro x hx; rw [List.mem_singleton.1 hx]; exact (hdig n h).1
    · rw [decDigits, dif_neg h]
      obtain ⟨h1, h2, h3⟩ := ih (n / 10) (by omega)
      have hm : n % 10 < 10 := by omega
      refine ⟨?_, ?_, by simp⟩
      · rw [numOf_append, h1, (hdig _ hm).2]; omega
      · intro x hx
        rcases List.mem_append.1 hx with hx | hx
        · exact h2 x hx
        · rw [List.mem_singleton.1 hx]; exact (hdig _ hm).1

theorem sym_one (c : UInt8) (rest : List UInt8) (h : c ∈ [40, 41, 44, 46, 42, 61, 60, 62, 43, 45, 47, 37, 59]) : symLen (c :: 32 :: rest) = 1 := by
  simp only [symLen]
  rw [if_neg (by rintro (h | h | h | h) <;> exact absurd h.2 (by decide)), if_pos h]
theorem sym_blank (c : UInt8) (h : c ∈ [40, 41, 44, 46, 42, 61, 60, 62, 43, 45, 47, 37, 59]) : isBlank c = false := by
  revert h; revert c; exact byte_all _ (by decide +kernel)

theorem good_of_tok {r : List UInt8} {t : Tok} {m : Nat} (h : tok r = some (t, m)) : t.at_ = 0 ∧ Good t := by
  match r, h with
  | [], h => simp [tok] at h
  | c :: r, h =>
    simp only [tok] at h
    split at h
    · -- a blob
      rename_i hc
      cases hb : blobOf r with
      | none => simp [hb] at h
      | some p =>
        simp [hb] at h
        obtain ⟨rfl, rfl⟩ := h
        refine ⟨rfl, fun rest => ?_, 88, 39 :: hexOf p.1 ++ [39], rfl, by decide, fun e => absurd e (by decide)⟩
        show tok (88 :: ((39 :: hexOf p.1 ++ [39]) ++ 32 :: rest)) = _
        have e : (39 :: hexOf p.1 ++ [39]) ++ 32 :: rest = 39 :: (hexOf p.1 ++ 39 :: 32 :: rest) := by simp
        rw [e]
        simp only [tok, or_true, List.head?_cons, and_self, if_true, blobOf, List.drop_succ_cons, List.drop_zero]
        rw [takeWhile_all (hexOf_ne _) (by decide), if_pos (by simp), hexPairs_hexOf]
        simp [printTok]
    · rename_i hx
      split at h
      · -- a word
        rename_i hc
        simp at h
        obtain ⟨rfl, rfl⟩ := h
        have hw : isWordByte c = true := letter_word c hc
        have htw : (c :: r).takeWhile isWordByte = c :: r.takeWhile isWordByte := by rw [List.takeWhile_cons, if_pos hw]
        rw [htw]
        generalize hq : r.takeWhile isWordByte = q
        have hqw : ∀ x ∈ q, isWordByte x = true := by rw [← hq]; exact takeWhile_mem
        have hall : ∀ x ∈ (c :: q).map lowerB, isWordByte x = true := by
          intro x hx
          obtain ⟨y, hy, rfl⟩ := List.mem_map.1 hx
          rcases List.mem_cons.1 hy with rfl | hy
          · exact lower_word _ hw
          · exact lower_word _ (hqw y hy)
        have hlow : ((c :: q).map lowerB).map lowerB = (c :: q).map lowerB := by
          rw [List.map_map]
          exact List.map_congr_left fun x _ => lower_lower x
        refine ⟨rfl, fun rest => ?_, lowerB c, q.map lowerB, rfl, (letter_not_blank _ (lower_letter c hc)).1, fun e => absurd e (letter_not_blank _ (lower_letter c hc)).2⟩
        show tok ((c :: q).map lowerB ++ 32 :: rest) = _
        have h39 : ¬ (q.map lowerB ++ 32 :: rest).head? = some 39 := by
          cases q with
          | nil => simp
          | cons d q =>
            simp only [List.map_cons, List.cons_append, List.head?_cons, Option.some.injEq]
            exact word_not_quote _ (hall _ (by simp))
        have htk : ((c :: q).map lowerB ++ 32 :: rest).takeWhile isWordByte = (c :: q).map lowerB := takeWhile_all hall (by decide)
        simp only [List.map_cons, List.cons_append] at htk ⊢
        simp only [tok]
        rw [if_neg (fun h => h39 h.2), if_pos (lower_letter c hc), htk]
        have hlow2 : (lowerB c :: q.map lowerB).map lowerB = lowerB c :: q.map lowerB := hlow
        rw [hlow2]
        simp [printTok]
      · rename_i hl
        split at h
        · -- a number
          rename_i hd
          split at h
          · rename_i hn
            simp at h
            obtain ⟨rfl, rfl⟩ := h
            generalize numOf ((c :: r).takeWhile isDigit) = n at hn
            obtain ⟨h1, h2, h3⟩ := dec_facts n n (Nat.le_refl _)
            have hp : printTok ⟨2, [], 0, n⟩ = decDigits n := by
              simp only [printTok, Go.Lib.itoa]
              rw [if_neg (by decide), if_pos trivial, if_neg (by omega)]
              simp
            obtain ⟨d, q, hdq⟩ : ∃ d q, decDigits n = d :: q := by
              cases hh : decDigits n with
              | nil => exact absurd hh h3
              | cons d q => exact ⟨d, q, rfl⟩
            have hd2 := digit_facts d (h2 d (by rw [hdq]; simp))
            refine ⟨rfl, fun rest => ?_, d, q, by rw [hp, hdq], hd2.2.2.2.1, fun e => absurd e hd2.2.2.2.2⟩
            rw [hp]
            have htk : (decDigits n ++ 32 :: rest).takeWhile isDigit = decDigits n := takeWhile_all h2 (by decide)
            rw [hdq] at htk h1 ⊢
            simp only [List.cons_append] at htk ⊢
            simp only [tok]
            rw [if_neg (fun h => by rcases h.1 with h | h; exact hd2.2.1 h; exact hd2.2.2.1 h), hd2.1, if_neg (by decide), if_pos (h2 d (by rw [hdq]; simp)), htk, h1, if_pos hn]
          · simp at h
        · rename_i hnd
          split at h
          · -- a text
            rename_i hc
            subst hc
            cases ht : textGo r with
            | none => simp [ht] at h
            | some p =>
              simp [ht] at h
              obtain ⟨rfl, rfl⟩ := h
              refine ⟨rfl, fun rest => ?_, 39, quote p.1 ++ [39], rfl, by decide, fun e => absurd e (by decide)⟩
              show tok (39 :: ((quote p.1 ++ [39]) ++ 32 :: rest)) = _
              have e : (quote p.1 ++ [39]) ++ 32 :: rest = quote p.1 ++ 39 :: 32 :: rest := by simp
              rw [e]
              simp only [tok]
              rw [if_neg (fun h => absurd h.1 (by decide)), if_neg (by decide), if_neg (by decide), if_pos trivial, textGo_quote]
              simp [printTok]
          · -- a symbol
            rename_i h39
            split at h
            · simp at h
            · rename_i hs
              simp at h
              obtain ⟨rfl, rfl⟩ := h
              have hx' : ¬ ((c = 120 ∨ c = 88)) := by
                intro hcx
                rcases hcx with rfl | rfl <;> exact absurd (by decide) hl
              have hl' : isLetter c = false := by simpa using hl
              have hd' : isDigit c = false := by simpa using hnd
              have key : ∀ s : List UInt8, (∃ q, s = c :: q ∧ symLen (s ++ [32]) = s.length ∧ ∀ rest, symLen (s ++ 32 :: rest) = s.length ∧ isBlank c = false ∧ (c = 45 → q = [])) → (⟨5, s, 0, 0⟩ : Tok).at_ = 0 ∧ Good ⟨5, s, 0, 0⟩ := by
                rintro s ⟨q, rfl, _, hq⟩
                refine ⟨rfl, fun rest => ?_, c, q, by simp [printTok], (hq []).2.1, (hq []).2.2⟩
                have hpt : printTok ⟨5, c :: q, 0, 0⟩ = c :: q := by simp [printTok]
                rw [hpt]
                have h1 := (hq rest).1
                simp only [List.cons_append] at h1 ⊢
                simp only [tok]
                rw [if_neg (fun h => hx' h.1), hl', if_neg (by decide), hd', if_neg (by decide), if_neg h39, h1, if_neg (by simp)]
                simp
              apply key
              match r, hs with
              | [], hs =>
                simp only [symLen] at hs ⊢
                split at hs
                · rename_i hm
                  rw [if_pos hm]
                  refine ⟨[], rfl, ?_, fun rest => ⟨?_, ?_, fun _ => rfl⟩⟩
                  · revert hm; simp only [List.take_succ_cons, List.take_zero, List.cons_append, List.nil_append]; exact fun hm => sym_one c [] hm
                  · exact sym_one c rest hm
                  · exact sym_blank c hm
                · exact absurd rfl hs
              | d :: r, hs =>
                simp only [symLen] at hs ⊢
                split at hs
                · rename_i hm
                  rw [if_pos hm]
                  refine ⟨[d], rfl, ?_, fun rest => ⟨?_, ?_, ?_⟩⟩
                  · simp only [List.take_succ_cons, List.take_zero, List.cons_append, List.nil_append, symLen, if_pos hm]; rfl
                  · simp only [List.take_succ_cons, List.take_zero, List.cons_append, List.nil_append, symLen, if_pos hm]; rfl
                  · rcases hm with h | h | h | h <;> (rw [h.1]; decide)
                  · rcases hm with h | h | h | h <;> (rw [h.1]; exact fun e => absurd e (by decide))
                · rename_i hm
                  split at hs
                  · rename_i hm2
                    rw [if_neg hm, if_pos hm2]
                    refine ⟨[], rfl, ?_, fun rest => ⟨?_, ?_, fun _ => rfl⟩⟩
                    · exact sym_one c [] hm2
                    · exact sym_one c rest hm2
                    · exact sym_blank c hm2
                  · exact absurd rfl hs

/-- The words written, a blank behind each. -/
def written (l : List Tok) : List UInt8 := l.flatMap fun t => printTok t ++ [32]
def placed : Nat → List Tok → List Tok
  | _, [] => []
  | n, t :: l => { t with at_ := n } :: placed (n + (printTok t).length + 1) l

theorem placed_length : ∀ (l : List Tok) (n : Nat), (placed n l).length = l.length
  | [], _ => rfl
  | t :: l, n => by simp [placed, placed_length l]

theorem placed_get : ∀ (l : List Tok) (n k : Nat) (h : k < l.length), ∃ p : Int, (placed n l)[k]'(by rw [placed_length]; exact h) = { l[k] with at_ := p }
  | [], _, _, h => by cases h
  | t :: l, n, 0, _ => ⟨n, rfl⟩
  | t :: l, n, k + 1, h => by
    obtain ⟨p, hp⟩ := placed_get l (n + (printTok t).length + 1) k (by simpa using h)
    exact ⟨p, hp⟩

theorem scanAll_written : ∀ (l : List Tok) (n : Nat), (∀ t ∈ l, Good t) → scanAll n (written l) = .ok (placed n l)
  | [], n, _ => by simp [written, placed, scanAll_nil]
  | t :: l, n, h => by
    obtain ⟨hg, c, r, hp, hb, hr⟩ := h t (by simp)
    have e : written (t :: l) = printTok t ++ 32 :: written l := by simp [written]
    have ht := hg (written l)
    rw [e]
    rw [hp] at ht ⊢
    simp only [List.cons_append] at ht ⊢
    rw [scanAll_cons, if_neg (by rw [hb]; decide), if_neg, ht]
    · simp only [List.length_cons, List.drop_succ_cons, List.drop_left]
      rw [scanAll_cons, if_pos (by decide), scanAll_written l _ (fun t ht => h t (by simp [ht]))]
      simp only [Except.map, placed, hp, List.length_cons]
    · rintro ⟨h1, h2⟩
      rw [hr h1] at h2
      simp at h2

theorem textGo_text (n : Nat) : ∀ (r : List UInt8) (l : List UInt8) (m : Nat), r.length ≤ n → textGo r = some (l, m) → l.length ≤ m := by
  induction n with
  | zero =>
    intro r l m hn h
    cases r with
    | nil => simp [textGo] at h
    | cons c r => simp at hn
  | succ n ih =>
    intro r l m hn h
    match r, hn, h with
    | [], _, h => simp [textGo] at h
    | [c], _, h =>
      simp only [textGo] at h
      split at h
      · simp at h; obtain ⟨rfl, rfl⟩ := h; simp
      · simp at h
    | c :: d :: r, hn, h =>
      simp only [textGo] at h
      split at h
      · split at h
        · cases ht : textGo r with
          | none => simp [ht] at h
          | some p =>
            have := ih r p.1 p.2 (by simp at hn; omega) ht
            simp [ht] at h
            obtain ⟨rfl, rfl⟩ := h
            simp; omega
        · simp at h; obtain ⟨rfl, rfl⟩ := h; simp
      · cases ht : textGo (d :: r) with
        | none => simp [ht] at h
        | some p =>
          have := ih (d :: r) p.1 p.2 (by simp at hn ⊢; omega) ht
          simp [ht] at h
          obtain ⟨rfl, rfl⟩ := h
          simp; omega

theorem hexPairs_len (n : Nat) : ∀ (r l : List UInt8), r.length ≤ n → hexPairs r = some l → l.length ≤ r.length := by
  induction n with
  | zero =>
    intro r l hn h
    cases r with
    | nil => simp [hexPairs] at h; subst h; simp
    | cons c r => simp at hn
  | succ n ih =>
    intro r l hn h
    match r, hn, h with
    | [], _, h => simp [hexPairs] at h; subst h; simp
    | [c], _, h => simp [hexPairs] at h
    | c :: d :: r, hn, h =>
      simp only [hexPairs] at h
      split at h
      · cases ht : hexPairs r with
        | none => simp [ht] at h
        | some p =>
          have := ih r p (by simp at hn; omega) ht
          simp [ht] at h
          subst h
          simp; omega
      · cases h

/-- What a word that was read is like. -/
def Fine (B : Nat) (t : Tok) : Prop := t.text.length ≤ B ∧ 0 ≤ t.int ∧ t.int < 9223372036854775808 ∧ (t.kind = 1 ∨ t.kind = 2 ∨ t.kind = 3 ∨ t.kind = 4 ∨ t.kind = 5)

theorem tok_fine {r : List UInt8} {t : Tok} {m : Nat} (h : tok r = some (t, m)) : Fine r.length t := by
  match r, h with
  | [], h => simp [tok] at h
  | c :: r, h =>
    simp only [tok] at h
    split at h
    · cases hb : blobOf r with
      | none => simp [hb] at h
      | some p =>
        simp [hb] at h
        obtain ⟨rfl, rfl⟩ := h
        simp only [blobOf] at hb
        have h2 := takeWhile_le (fun c : UInt8 => c != 39) (r.drop 1)
        generalize (r.drop 1).takeWhile (fun c : UInt8 => c != 39) = ds at hb h2
        split at hb
        · cases hh : hexPairs ds with
          | none => simp [hh] at hb
          | some l =>
            have h1 := hexPairs_len _ _ _ (Nat.le_refl _) hh
            simp [hh] at hb
            subst hb
            simp only [List.length_drop] at h2
            refine ⟨?_, by simp, by simp, by simp⟩
            simp only [List.length_cons]
            omega
        · cases hb
    · split at h
      · simp at h
        obtain ⟨rfl, rfl⟩ := h
        refine ⟨?_, by simp, by simp, by simp⟩
        have := takeWhile_le isWordByte (c :: r)
        simpa using this
      · split at h
        · split at h
          · rename_i hn
            simp at h
            obtain ⟨rfl, rfl⟩ := h
            refine ⟨by simp, by simp, ?_, by simp⟩
            simp only []
            omega
          · cases h
        · split at h
          · cases ht : textGo r with
            | none => simp [ht] at h
            | some p =>
              simp [ht] at h
              obtain ⟨rfl, rfl⟩ := h
              have h1 := textGo_text _ _ _ _ (Nat.le_refl _) ht
              have h2 := (textGo_len _ _ _ _ (Nat.le_refl _) ht).2
              refine ⟨?_, by simp, by simp, by simp⟩
              simp only [List.length_cons]
              omega
          · split at h
            · cases h
            · simp at h
              obtain ⟨rfl, rfl⟩ := h
              refine ⟨?_, by simp, by simp, by simp⟩
              simp; omega

theorem Fine.mono {a b : Nat} {t : Tok} (h : Fine a t) (hab : a ≤ b) : Fine b t := ⟨Nat.le_trans h.1 hab, h.2⟩
theorem Fine.at' {a : Nat} {t : Tok} (h : Fine a t) (p : Int) : Fine a { t with at_ := p } := h
theorem Good.at' {t : Tok} (h : Good t) (p : Int) : Good { t with at_ := p } := h

theorem good_of_scan (m : Nat) : ∀ (r : List UInt8) (n : Nat) (l : List Tok), r.length ≤ m → scanAll n r = .ok l → ∀ t ∈ l, Good t ∧ Fine r.length t := by
  induction m with
  | zero =>
    intro r n l hm h
    cases r with
    | nil => rw [scanAll_nil] at h; cases h; exact fun t ht => by cases ht
    | cons c r => simp at hm
  | succ m ih =>
    intro r n l hm h
    cases r with
    | nil => rw [scanAll_nil] at h; cases h; exact fun t ht => by cases ht
    | cons c r =>
      simp only [List.length_cons] at hm
      rw [scanAll_cons] at h
      split at h
      · intro t ht
        have := ih r (n + 1) l (by omega) h t ht
        exact ⟨this.1, this.2.mono (by simp)⟩
      · split at h
        · rename_i hc
          split at h
          · have h1 := dropWhile_len (c :: r) (fun x => x != 10)
            have h2 : 1 ≤ ((c :: r).takeWhile (fun x => x != 10)).length := by simp [hc.1]
            simp only [List.length_cons] at h1
            intro t ht
            have := ih _ _ l (by omega) h t ht
            exact ⟨this.1, this.2.mono (by simp only [List.length_cons]; omega)⟩
          · cases h; exact fun t ht => by cases ht
        · cases ht : tok (c :: r) with
          | none => rw [ht] at h; cases h
          | some p =>
            obtain ⟨t, q⟩ := p
            rw [ht] at h
            have hq := tok_len ht
            simp only [List.length_cons] at hq
            simp only [] at h
            cases hs : scanAll (n + q) ((c :: r).drop q) with
            | error e => rw [hs] at h; cases h
            | ok l' =>
              rw [hs] at h
              cases h
              intro x hx
              rcases List.mem_cons.1 hx with rfl | hx
              · exact ⟨(good_of_tok ht).2.at' _, (tok_fine ht).at' _⟩
              · have := ih _ _ l' (by simp; omega) hs x hx
                exact ⟨this.1, this.2.mono (by simp)⟩

theorem good_of_scan' {r : List UInt8} {l : List Tok} (h : scanAll 0 r = .ok l) : ∀ t ∈ l, Good t ∧ Fine r.length t := good_of_scan r.length r 0 l (Nat.le_refl _) h

theorem quote_len (l : List UInt8) : (quote l).length ≤ l.length * 2 := by
  induction l with
  | nil => simp [quote]
  | cons c l ih =>
    have e : quote (c :: l) = (if c = 39 then [39, 39] else [c]) ++ quote l := by simp [quote]
    rw [e, List.length_append]
    split <;> simp <;> omega
theorem hexOf_len (l : List UInt8) : (hexOf l).length = l.length * 2 := by
  induction l with
  | nil => simp [hexOf]
  | cons c l ih =>
    have e : hexOf (c :: l) = [hexD (c.toNat / 16), hexD (c.toNat % 16)] ++ hexOf l := by simp [hexOf]
    rw [e, List.length_append, ih]
    simp; omega

/-- What is written, read again: the same words at other places. -/
theorem again {l : List Tok} (h : ∀ t ∈ l, Good t) (hs : (written l).length ≤ 16384) : tokens (written l) = .ok (placed 0 l) := by
  rw [tokens_short hs, scanAll_written l 0 h]
  rfl
end Lex
end Go.Proofs.YtgidnbkbmjjihaaGreatDoor
