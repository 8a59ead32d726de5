/- Blanks and a remark ahead of a text, and behind it, change nothing of its words but their places: the plain law, over lists of bytes. -/
import Derived.Test.YtgidnbkbmjjihaaGreatDoorLexSpec
namespace Go.Proofs.YtgidnbkbmjjihaaGreatDoor
namespace Lex

theorem takeWhile_le {α : Type} (p : α → Bool) (l : List α) : (l.takeWhile p).length ≤ l.length := by
  induction l with
  | nil => simp
  | cons a l ih => simp only [List.takeWhile_cons]; split <;> simp <;> omega

theorem textGo_len (n : Nat) : ∀ (r : List UInt8) (l : List UInt8) (m : Nat), r.length ≤ n → textGo r = some (l, m) → 1 ≤ m ∧ m ≤ r.length := by
  induction n with
  | zero =>
    intro r l m hn h
    cases r with
    | nil => simp [textGo] at h
    | cons c r => simp at hn
  | succ n ih =>
    intro r l m hn h
    match r, hn, h with
    | [], _, h => simp [textGo] at h
    | [c], _, h =>
      simp only [textGo] at h
      split at h
      · simp at h; simp; omega
      · simp at h
    | c :: d :: r, hn, h =>
      simp only [textGo] at h
      split at h
      · split at h
        · cases ht : textGo r with
          | none => simp [ht] at h
          | some p =>
            have := ih r p.1 p.2 (by simp at hn; omega) ht
            simp [ht] at h
            simp; omega
        · simp at h; simp; omega
      · cases ht : textGo (d :: r) with
        | none => simp [ht] at h
        | some p =>
          have := ih (d :: r) p.1 p.2 (by simp at hn ⊢; omega) ht
          simp [ht] at h
          simp at this ⊢; omega

theorem symLen_le (r : List UInt8) : symLen r ≤ r.length := by
  match r with
  | [] => simp [symLen]
  | [c] => simp only [symLen]; split <;> simp
  | c :: d :: r => simp only [symLen]; split <;> (try split) <;> simp

theorem tok_len {r : List UInt8} {t : Tok} {m : Nat} (h : tok r = some (t, m)) : 1 ≤ m ∧ m ≤ r.length := by
  match r, h with
  | [], h => simp [tok] at h
  | c :: r, h =>
    simp only [tok] at h
    split at h
    · rename_i hc
      cases hb : blobOf r with
      | none => simp [hb] at h
      | some p =>
        simp [hb] at h
        unfold blobOf at hb
        simp only [] at hb
        split at hb
        · rename_i hl
          simp at hb
          obtain ⟨q, _, hb⟩ := hb
          have e := congrArg Prod.snd hb
          simp at e
          simp at hl ⊢
          omega
        · simp at hb
    · split at h
      · rename_i hl
        have := takeWhile_le isWordByte (c :: r)
        simp only [Option.some.injEq, Prod.mk.injEq] at h
        have hw : isWordByte c = true := by simp [isWordByte, hl]
        have : 1 ≤ ((c :: r).takeWhile isWordByte).length := by simp [hw]
        omega
      · split at h
        · rename_i hd
          split at h
          · have := takeWhile_le isDigit (c :: r)
            simp only [Option.some.injEq, Prod.mk.injEq] at h
            have : 1 ≤ ((c :: r).takeWhile isDigit).length := by simp [hd]
            omega
          · simp at h
        · split at h
          · cases ht : textGo r with
            | none => simp [ht] at h
            | some p =>
              have := textGo_len r.length r p.1 p.2 (Nat.le_refl _) ht
              simp [ht] at h
              simp; omega
          · split at h
            · simp at h
            · have := symLen_le (c :: r)
              simp only [Option.some.injEq, Prod.mk.injEq] at h
              omega

theorem mem_takeWhile_lt (l : List UInt8) (h : 10 ∈ l) : (l.takeWhile (fun x => x != 10)).length < l.length := by
  induction l with
  | nil => simp at h
  | cons a l ih =>
    simp only [List.takeWhile_cons]
    split
    · rename_i ha
      have : 10 ∈ l := by
        rcases List.mem_cons.1 h with e | e
        · subst e; simp at ha
        · exact e
      have := ih this
      simp; omega
    · simp

theorem dropWhile_len (l : List UInt8) (p : UInt8 → Bool) : (l.dropWhile p).length + (l.takeWhile p).length = l.length := by
  have := congrArg List.length (List.takeWhile_append_dropWhile (p := p) (l := l))
  rw [List.length_append] at this
  omega

/-- More rounds change nothing. -/
theorem scan_more (m : Nat) : ∀ (r : List UInt8) (k n : Nat), r.length ≤ m → r.length < k → scan k n r = scan (r.length + 1) n r := by
  induction m with
  | zero =>
    intro r k n hm hk
    obtain ⟨k, rfl⟩ : ∃ j, k = j + 1 := ⟨k - 1, by omega⟩
    cases r with
    | nil => simp [scan]
    | cons c r => simp at hm
  | succ m ih =>
    intro r k n hm hk
    obtain ⟨k, rfl⟩ : ∃ j, k = j + 1 := ⟨k - 1, by omega⟩
    cases r with
    | nil => simp [scan]
    | cons c r =>
      simp only [List.length_cons] at hm hk
      have step : ∀ (q : List UInt8) (n : Nat), q.length ≤ r.length → scan k n q = scan (r.length + 1) n q := by
        intro q n hq
        rw [ih q k n (by omega) (by omega), ih q (r.length + 1) n (by omega) (by omega)]
      show scan (k + 1) n (c :: r) = scan (r.length + 1 + 1) n (c :: r)
      simp only [scan]
      split
      · exact step _ _ (Nat.le_refl _)
      · split
        · rename_i hc
          split
          · rename_i hm10
            apply step
            have h1 := dropWhile_len (c :: r) (fun x => x != 10)
            have h2 : 1 ≤ ((c :: r).takeWhile (fun x => x != 10)).length := by simp [hc.1]
            simp at h1; omega
          · rfl
        · cases ht : tok (c :: r) with
          | none => rfl
          | some p =>
            obtain ⟨t, q⟩ := p
            have := tok_len ht
            simp only []
            rw [step _ _ (by simp; omega)]

def scanAll (n : Nat) (r : List UInt8) : Except Nat (List Tok) := scan (r.length + 1) n r

theorem scan_all {k n : Nat} {r : List UInt8} (h : r.length < k) : scan k n r = scanAll n r := scan_more r.length r k n (Nat.le_refl _) h

theorem scanAll_nil (n : Nat) : scanAll n [] = .ok [] := by simp [scanAll, scan]

theorem scanAll_cons (n : Nat) (c : UInt8) (r : List UInt8) : scanAll n (c :: r) =
    if isBlank c then scanAll (n + 1) r
    else if c = 45 ∧ r.head? = some 45 then
      (if 10 ∈ c :: r then scanAll (n + ((c :: r).takeWhile (fun x => x != 10)).length) ((c :: r).dropWhile (fun x => x != 10)) else .ok [])
    else match tok (c :: r) with
      | none => .error n
      | some (t, m) => (scanAll (n + m) ((c :: r).drop m)).map (fun l => { t with at_ := n } :: l) := by
  show scan ((c :: r).length + 1) n (c :: r) = _
  simp only [scan]
  split
  · exact scan_all (by simp)
  · split
    · rename_i hc
      split
      · apply scan_all
        have h1 := dropWhile_len (c :: r) (fun x => x != 10)
        have h2 : 1 ≤ ((c :: r).takeWhile (fun x => x != 10)).length := by simp [hc.1]
        omega
      · rfl
    · cases ht : tok (c :: r) with
      | none => rfl
      | some p =>
        obtain ⟨t, q⟩ := p
        have := tok_len ht
        simp only []
        rw [scan_all (by simp; omega)]

def shift (d : Nat) : Except Nat (List Tok) → Except Nat (List Tok)
  | .error n => .error (n + d)
  | .ok l => .ok (l.map fun t => { t with at_ := t.at_ + d })

theorem shift_map (d : Nat) (t : Tok) (n : Nat) (x : Except Nat (List Tok)) :
    shift d (x.map fun l => { t with at_ := (n : Int) } :: l) = (shift d x).map fun l => { t with at_ := ((n + d : Nat) : Int) } :: l := by
  cases x <;> simp [shift, Except.map]

theorem scanAll_shift (m : Nat) : ∀ (r : List UInt8) (n d : Nat), r.length ≤ m → scanAll (n + d) r = shift d (scanAll n r) := by
  induction m with
  | zero =>
    intro r n d hm
    cases r with
    | nil => simp [scanAll_nil, shift]
    | cons c r => simp at hm
  | succ m ih =>
    intro r n d hm
    cases r with
    | nil => simp [scanAll_nil, shift]
    | cons c r =>
      simp only [List.length_cons] at hm
      rw [scanAll_cons, scanAll_cons]
      split
      · rw [show n + d + 1 = n + 1 + d by omega]; exact ih _ _ _ (by omega)
      · split
        · rename_i hc
          split
          · rw [show ∀ x, n + d + x = n + x + d by omega]
            apply ih
            have h1 := dropWhile_len (c :: r) (fun x => x != 10)
            have h2 : 1 ≤ ((c :: r).takeWhile (fun x => x != 10)).length := by simp [hc.1]
            simp at h1; omega
          · simp [shift]
        · cases ht : tok (c :: r) with
          | none => simp [shift]
          | some p =>
            obtain ⟨t, q⟩ := p
            have := tok_len ht
            simp only []
            rw [shift_map, show n + d + q = n + q + d by omega, ih _ _ _ (by simp; omega)]

/-- What stands behind the text: a line feed, and then a remark, without a quote. -/
def tail_ : List UInt8 := [10, 32, 45, 45, 32, 101, 110, 100]

theorem takeWhile_tail (p : UInt8 → Bool) (hp : p 10 = false) (r : List UInt8) : (r ++ tail_).takeWhile p = r.takeWhile p := by
  induction r with
  | nil => simp [tail_, hp]
  | cons a r ih => simp only [List.cons_append, List.takeWhile_cons, ih]

theorem textGo_tail (n : Nat) : ∀ r : List UInt8, r.length ≤ n → textGo (r ++ tail_) = textGo r := by
  induction n with
  | zero =>
    intro r hn
    cases r with
    | nil => decide
    | cons c r => simp at hn
  | succ n ih =>
    intro r hn
    match r, hn with
    | [], _ => decide
    | [c], _ =>
      show textGo (c :: 10 :: [32, 45, 45, 32, 101, 110, 100]) = _
      simp only [textGo]
      by_cases h : c = 39
      · simp [h]
      · simp [h]
    | c :: d :: r, hn =>
      simp at hn
      show textGo (c :: d :: (r ++ tail_)) = _
      have h1 := ih r (by omega)
      have h2 := ih (d :: r) (by simp; omega)
      simp only [List.cons_append] at h2
      simp only [textGo, h1, h2]

theorem takeWhile_no (l : List UInt8) : (l.takeWhile (fun c => c != 39)).length < l.length ↔ 39 ∈ l := by
  induction l with
  | nil => simp
  | cons a l ih =>
    simp only [List.takeWhile_cons]
    split
    · rename_i ha
      simp at ha
      simp only [List.length_cons, List.mem_cons]
      constructor
      · intro h; exact .inr (ih.1 (by omega))
      · rintro (h | h)
        · exact absurd h.symm ha
        · have := ih.2 h; omega
    · rename_i ha
      simp at ha
      simp [ha]

theorem takeWhile_q_tail (l : List UInt8) (h : 39 ∈ l) : (l ++ tail_).takeWhile (fun c => c != 39) = l.takeWhile (fun c => c != 39) := by
  induction l with
  | nil => simp at h
  | cons a l ih =>
    simp only [List.cons_append, List.takeWhile_cons]
    split
    · rename_i ha
      simp at ha
      rcases List.mem_cons.1 h with e | e
      · exact absurd e.symm ha
      · rw [ih e]
    · rfl

theorem blobOf_tail (r : List UInt8) (hr : r ≠ []) : blobOf (r ++ tail_) = blobOf r := by
  cases r with
  | nil => exact absurd rfl hr
  | cons c r =>
    unfold blobOf
    simp only [List.cons_append, List.drop_succ_cons, List.drop_zero, List.length_cons]
    by_cases h : 39 ∈ r
    · rw [takeWhile_q_tail r h]
      have := (takeWhile_no r).2 h
      rw [if_pos (by simp; omega), if_pos (by omega)]
    · have h1 : ¬ (r.takeWhile (fun c => c != 39)).length < r.length := fun x => h ((takeWhile_no r).1 x)
      have h2 : ¬ ((r ++ tail_).takeWhile (fun c => c != 39)).length < (r ++ tail_).length := fun x => by
        have := (takeWhile_no _).1 x
        rcases List.mem_append.1 this with e | e
        · exact h e
        · simp [tail_] at e
      rw [if_neg (by omega), if_neg (by omega)]

theorem symLen_tail (c : UInt8) (r : List UInt8) : symLen (c :: r ++ tail_) = symLen (c :: r) := by
  cases r with
  | nil =>
    show symLen (c :: 10 :: [32, 45, 45, 32, 101, 110, 100]) = _
    simp [symLen]
  | cons d r => simp [symLen]

theorem head_tail (r : List UInt8) (x : UInt8) (hx : x ≠ 10) : (r ++ tail_).head? = some x ↔ r.head? = some x := by
  cases r with
  | nil => simp [tail_]; exact fun h => hx h.symm
  | cons c r => simp

theorem tok_tail (c : UInt8) (r : List UInt8) : tok (c :: r ++ tail_) = tok (c :: r) := by
  show tok (c :: (r ++ tail_)) = _
  simp only [tok]
  have e1 : ((c :: (r ++ tail_)).takeWhile isWordByte) = ((c :: r).takeWhile isWordByte) := takeWhile_tail _ (by decide) (c :: r)
  have e2 : ((c :: (r ++ tail_)).takeWhile isDigit) = ((c :: r).takeWhile isDigit) := takeWhile_tail _ (by decide) (c :: r)
  have e3 : symLen (c :: (r ++ tail_)) = symLen (c :: r) := symLen_tail c r
  have e4 : (c :: (r ++ tail_)).take (symLen (c :: r)) = (c :: r).take (symLen (c :: r)) := by
    have : c :: (r ++ tail_) = (c :: r) ++ tail_ := rfl
    rw [this, List.take_append_of_le_length (symLen_le _)]
  simp only [e1, e2, e3, e4, textGo_tail r.length r (Nat.le_refl _), head_tail r 39 (by decide)]
  by_cases h : (c = 120 ∨ c = 88) ∧ r.head? = some 39
  · rw [if_pos h, if_pos h, blobOf_tail r (fun e => by simp [e] at h)]
  · rw [if_neg h, if_neg h]

theorem scanAll_tail_ (n : Nat) : scanAll n tail_ = .ok [] := by
  rw [tail_, scanAll_cons, if_pos (by decide), scanAll_cons, if_pos (by decide), scanAll_cons, if_neg (by decide), if_pos (by decide), if_neg (by decide)]

theorem dropWhile_tail_mem (r : List UInt8) (h : 10 ∈ r) : (r ++ tail_).dropWhile (fun x => x != 10) = r.dropWhile (fun x => x != 10) ++ tail_ := by
  induction r with
  | nil => simp at h
  | cons a r ih =>
    simp only [List.cons_append, List.dropWhile_cons]
    split
    · rename_i ha
      simp at ha
      rcases List.mem_cons.1 h with e | e
      · exact absurd e.symm ha
      · exact ih e
    · rfl

theorem dropWhile_tail_not (r : List UInt8) (h : 10 ∉ r) : (r ++ tail_).dropWhile (fun x => x != 10) = tail_ := by
  induction r with
  | nil => simp [tail_]
  | cons a r ih =>
    simp only [List.mem_cons, not_or] at h
    simp only [List.cons_append, List.dropWhile_cons]
    rw [if_pos (by simpa using fun e => h.1 e.symm)]
    exact ih h.2

/-- The end that is put behind a text changes nothing. -/
theorem scanAll_tail (m : Nat) : ∀ (r : List UInt8) (n : Nat), r.length ≤ m → scanAll n (r ++ tail_) = scanAll n r := by
  induction m with
  | zero =>
    intro r n hm
    cases r with
    | nil => simp [scanAll_nil, scanAll_tail_]
    | cons c r => simp at hm
  | succ m ih =>
    intro r n hm
    cases r with
    | nil => simp [scanAll_nil, scanAll_tail_]
    | cons c r =>
      simp only [List.length_cons] at hm
      show scanAll n (c :: (r ++ tail_)) = _
      rw [scanAll_cons, scanAll_cons]
      by_cases hb : isBlank c = true
      · rw [if_pos hb, if_pos hb]; exact ih _ _ (by omega)
      rw [if_neg hb, if_neg hb]
      simp only [head_tail r 45 (by decide)]
      by_cases hc : c = 45 ∧ r.head? = some 45
      · rw [if_pos hc, if_pos hc, if_pos (by simp [tail_])]
        have e : c :: (r ++ tail_) = (c :: r) ++ tail_ := rfl
        by_cases h10 : 10 ∈ c :: r
        · have h2 : 1 ≤ ((c :: r).takeWhile (fun x => x != 10)).length := by simp [hc.1]
          have h1 := dropWhile_len (c :: r) (fun x => x != 10)
          rw [if_pos h10, e, dropWhile_tail_mem _ h10, takeWhile_tail _ (by decide)]
          exact ih _ _ (by simp at h1; omega)
        · rw [if_neg h10, e, dropWhile_tail_not _ h10, scanAll_tail_]
      · rw [if_neg hc, if_neg hc]
        have e : c :: (r ++ tail_) = (c :: r) ++ tail_ := rfl
        rw [e, tok_tail]
        cases ht : tok (c :: r) with
        | none => rfl
        | some p =>
          obtain ⟨t, q⟩ := p
          have := tok_len ht
          simp only []
          rw [List.drop_append_of_le_length this.2, ih _ _ (by simp; omega)]

theorem scanAll_blanks (b r : List UInt8) (n : Nat) (hb : ∀ c ∈ b, isBlank c = true) : scanAll n (b ++ r) = scanAll (n + b.length) r := by
  induction b generalizing n with
  | nil => simp
  | cons c b ih =>
    rw [List.cons_append, scanAll_cons, if_pos (hb c (by simp)), ih _ (fun x hx => hb x (by simp [hx]))]
    simp only [List.length_cons]
    rw [show n + 1 + b.length = n + (b.length + 1) by omega]

theorem takeWhile_remark (k r : List UInt8) (hk : 10 ∉ k) : (k ++ 10 :: r).takeWhile (fun x => x != 10) = k := by
  induction k with
  | nil => simp
  | cons a k ih =>
    simp only [List.mem_cons, not_or] at hk
    simp only [List.cons_append, List.takeWhile_cons]
    rw [if_pos (by simpa using fun e => hk.1 e.symm), ih hk.2]

theorem dropWhile_remark (k r : List UInt8) (hk : 10 ∉ k) : (k ++ 10 :: r).dropWhile (fun x => x != 10) = 10 :: r := by
  induction k with
  | nil => simp
  | cons a k ih =>
    simp only [List.mem_cons, not_or] at hk
    simp only [List.cons_append, List.dropWhile_cons]
    rw [if_pos (by simpa using fun e => hk.1 e.symm), ih hk.2]

/-- Blanks and a remark ahead of a text change nothing but the places. -/
theorem scanAll_ahead (b k r : List UInt8) (hb : ∀ c ∈ b, isBlank c = true) (hk : 10 ∉ k) :
    scanAll 0 (b ++ (45 :: 45 :: k ++ 10 :: r)) = shift (b.length + (k.length + 3)) (scanAll 0 r) := by
  rw [scanAll_blanks b _ 0 hb]
  have hk2 : (10 : UInt8) ∉ 45 :: 45 :: k := by simp [hk]
  show scanAll (0 + b.length) (45 :: (45 :: k ++ 10 :: r)) = _
  rw [scanAll_cons, if_neg (by decide), if_pos (by simp), if_pos (by simp)]
  have e : (45 : UInt8) :: (45 :: k ++ 10 :: r) = (45 :: 45 :: k) ++ 10 :: r := rfl
  rw [e, takeWhile_remark _ _ hk2, dropWhile_remark _ _ hk2, scanAll_cons, if_pos (by decide), ← scanAll_shift r.length r 0 _ (Nat.le_refl _)]
  congr 1
  simp; omega

def outcome : Except Nat (List Tok) → Except (Nat × Nat) (List Tok)
  | .error n => .error (n, 20)
  | .ok l => .ok l

theorem tokens_short {s : List UInt8} (h : s.length ≤ 16384) : tokens s = outcome (scanAll 0 s) := by
  unfold tokens
  rw [if_neg (by omega)]
  show (match scanAll 0 s with | .error n => _ | .ok l => _) = _
  cases scanAll 0 s <;> rfl

/-- The law: what is put ahead and behind changes the places alone, by as many bytes as were put ahead. -/
theorem blanks (b k text : List UInt8) (hb : ∀ c ∈ b, isBlank c = true) (hk : 10 ∉ k) (hbl : b.length ≤ 50) (hkl : k.length ≤ 100) (ht : text.length ≤ 16184) :
    tokens text = outcome (scanAll 0 text) ∧
      tokens ((b ++ (45 :: 45 :: k ++ [10])) ++ text ++ tail_) = outcome (shift (b ++ (45 :: 45 :: k ++ [10])).length (scanAll 0 text)) := by
  refine ⟨tokens_short (by omega), ?_⟩
  rw [tokens_short (by simp [tail_]; omega), scanAll_tail _ _ _ (Nat.le_refl _)]
  have e : b ++ (45 :: 45 :: k ++ [10]) ++ text = b ++ (45 :: 45 :: k ++ 10 :: text) := by simp
  rw [e, scanAll_ahead b k text hb hk]
  congr 2
  simp

end Lex
end Go.Proofs.YtgidnbkbmjjihaaGreatDoor
