/- Bounds of the plain scan, and Tokens' answer as the law's walk reads it. -/
import Derived.Test.YtgidnbkbmjjihaaGreatDoorLexP
namespace Go.Proofs.YtgidnbkbmjjihaaGreatDoor
open Go.RowKit
namespace Lex

theorem scanAll_bound (m : Nat) : ∀ (r : List UInt8) (n : Nat) (l : List Tok), r.length ≤ m → scanAll n r = .ok l → l.length ≤ r.length ∧ ∀ t ∈ l, 0 ≤ t.at_ ∧ t.at_ ≤ n + r.length := by
  induction m with
  | zero =>
    intro r n l hm h
    cases r with
    | nil => rw [scanAll_nil] at h; cases h; exact ⟨by simp, fun t ht => by cases ht⟩
    | cons c r => simp at hm
  | succ m ih =>
    intro r n l hm h
    cases r with
    | nil => rw [scanAll_nil] at h; cases h; exact ⟨by simp, fun t ht => by cases ht⟩
    | cons c r =>
      simp only [List.length_cons] at hm
      rw [scanAll_cons] at h
      split at h
      · obtain ⟨h1, h2⟩ := ih r (n + 1) l (by omega) h
        refine ⟨by simp only [List.length_cons]; omega, fun t ht => ?_⟩
        have := h2 t ht
        simp only [List.length_cons]
        omega
      · split at h
        · rename_i hc
          split at h
          · have h1 := dropWhile_len (c :: r) (fun x => x != 10)
            have h2 : 1 ≤ ((c :: r).takeWhile (fun x => x != 10)).length := by simp [hc.1]
            simp only [List.length_cons] at h1
            obtain ⟨h3, h4⟩ := ih _ _ l (by omega) h
            refine ⟨by simp only [List.length_cons]; omega, fun t ht => ?_⟩
            have := h4 t ht
            simp only [List.length_cons]
            omega
          · cases h; exact ⟨by simp, fun t ht => by cases ht⟩
        · cases ht : tok (c :: r) with
          | none => rw [ht] at h; cases h
          | some p =>
            obtain ⟨t, q⟩ := p
            rw [ht] at h
            have hq := tok_len ht
            simp only [List.length_cons] at hq
            simp only [] at h
            cases hs : scanAll (n + q) ((c :: r).drop q) with
            | error e => rw [hs] at h; cases h
            | ok l' =>
              rw [hs] at h
              cases h
              obtain ⟨h3, h4⟩ := ih _ _ l' (by simp; omega) hs
              have hd : ((c :: r).drop q).length = r.length + 1 - q := by simp
              refine ⟨by simp only [List.length_cons]; omega, fun t ht => ?_⟩
              rcases List.mem_cons.1 ht with rfl | ht
              · simp only [List.length_cons]; omega
              · have := h4 t ht
                simp only [List.length_cons]
                omega

theorem scanAll_bound' {r : List UInt8} {l : List Tok} (h : scanAll 0 r = .ok l) : l.length ≤ r.length ∧ ∀ t ∈ l, 0 ≤ t.at_ ∧ t.at_ ≤ r.length := by
  have := scanAll_bound r.length r 0 l (Nat.le_refl _) h
  simpa using this

theorem scanAll_err (m : Nat) : ∀ (r : List UInt8) (n e : Nat), r.length ≤ m → scanAll n r = .error e → e ≤ n + r.length := by
  induction m with
  | zero =>
    intro r n e hm h
    cases r with
    | nil => rw [scanAll_nil] at h; cases h
    | cons c r => simp at hm
  | succ m ih =>
    intro r n e hm h
    cases r with
    | nil => rw [scanAll_nil] at h; cases h
    | cons c r =>
      simp only [List.length_cons] at hm
      rw [scanAll_cons] at h
      split at h
      · have := ih r (n + 1) e (by omega) h
        simp only [List.length_cons]; omega
      · split at h
        · rename_i hc
          split at h
          · have h1 := dropWhile_len (c :: r) (fun x => x != 10)
            have h2 : 1 ≤ ((c :: r).takeWhile (fun x => x != 10)).length := by simp [hc.1]
            simp only [List.length_cons] at h1
            have := ih _ _ e (by omega) h
            simp only [List.length_cons]; omega
          · cases h
        · cases ht : tok (c :: r) with
          | none => rw [ht] at h; cases h; simp
          | some p =>
            obtain ⟨t, q⟩ := p
            rw [ht] at h
            have hq := tok_len ht
            simp only [List.length_cons] at hq
            simp only [] at h
            cases hs : scanAll (n + q) ((c :: r).drop q) with
            | error e' =>
              rw [hs] at h
              cases h
              have := ih _ _ e (by simp; omega) hs
              have hd : ((c :: r).drop q).length = r.length + 1 - q := by simp
              simp only [List.length_cons]; omega
            | ok l' => rw [hs] at h; cases h

theorem scanAll_err' {r : List UInt8} {e : Nat} (h : scanAll 0 r = .error e) : e ≤ r.length := by
  have := scanAll_err r.length r 0 e (Nat.le_refl _) h
  omega
end Lex

/-- A row of tokens that a slice shows. -/
def TokRow (W : World) (A : Option Addr) (l : List Lex.Tok) : Prop :=
  ∀ k (h : k < l.length), ∃ g, A = some ⟨g, 0, none⟩ ∧ g < W.heap.size ∧ W.cell? ⟨g, k * 4, none⟩ = some (.int .i64 l[k].kind) ∧ W.cell? ⟨g, k * 4 + 1, none⟩ = some (.string ⟨l[k].text.toArray⟩) ∧
    W.cell? ⟨g, k * 4 + 2, none⟩ = some (.int .i64 l[k].at_) ∧ W.cell? ⟨g, k * 4 + 3, none⟩ = some (.int .i64 l[k].int)

theorem TokRow.of_below {W W' : World} {A : Option Addr} {l : List Lex.Tok} (h : TokRow W A l) (hb : Below W.heap.size W W') : TokRow W' A l := by
  intro k hk
  obtain ⟨g, h1, h2, h3, h4, h5, h6⟩ := h k hk
  have := hb.size
  exact ⟨g, h1, by omega, (hb.cell (p := ⟨g, _, none⟩) h2).trans h3, (hb.cell (p := ⟨g, _, none⟩) h2).trans h4, (hb.cell (p := ⟨g, _, none⟩) h2).trans h5, (hb.cell (p := ⟨g, _, none⟩) h2).trans h6⟩

theorem tokCells_get (l : List Lex.Tok) : ∀ (k j : Nat) (hk : k < l.length), j < 4 → (l.flatMap tokCells)[k * 4 + j]? = (tokCells l[k])[j]? := by
  induction l with
  | nil => intro k j hk; cases hk
  | cons t l ih =>
    intro k j hk hj
    rw [List.flatMap_cons]
    cases k with
    | zero => rw [List.getElem?_append_left (by simp [tokCells]; omega)]; simp
    | succ k =>
      rw [List.getElem?_append_right (by simp [tokCells]; omega)]
      simp only [List.getElem_cons_succ]
      rw [← ih k j (by simpa using hk) hj]
      congr 1
      simp [tokCells]; omega

/-- Tokens, where the plain scan reads the text. -/
theorem tokens_good (s : ByteArray) (l : List Lex.Tok) (w : World) (hL : Laid w) (h : Lex.tokens s.data.toList = .ok l) :
    Calls Tryz.prog 15 #[.string s] w fun e w' => ∃ A cap, e = .returned (.tuple #[.slice A l.length cap, .nilIface]) ∧ TokRow w' A l ∧ Below w.heap.size w w' := by
  refine (tokens_any s w hL).mono ?_
  rintro e w' ⟨hm, hb⟩
  rw [h] at hm
  obtain ⟨v, rfl, ho⟩ := hm
  rcases ho.2 with ⟨rfl, h0⟩ | ⟨g, cap, cur, rfl, _, hgg, hr⟩
  · refine ⟨none, 0, by rw [h0], fun k hk => by omega, hb⟩
  · refine ⟨_, cap, rfl, fun k hk => ?_, hb⟩
    have hlt : g < w'.heap.size := (Array.getElem?_eq_some_iff.1 hgg).1
    have hc := ho.cells (g := g) rfl
    have e : ∀ j, (⟨g, 0, none⟩ : Addr).add j = ⟨g, j, none⟩ := fun j => by unfold Addr.add; split <;> simp_all
    refine ⟨g, rfl, hlt, ?_, ?_, ?_, ?_⟩
    · have := hc (k * 4 + 0) _ (tokCells_get l k 0 hk (by decide)); rwa [e] at this
    · have := hc (k * 4 + 1) _ (tokCells_get l k 1 hk (by decide)); rwa [e] at this
    · have := hc (k * 4 + 2) _ (tokCells_get l k 2 hk (by decide)); rwa [e] at this
    · have := hc (k * 4 + 3) _ (tokCells_get l k 3 hk (by decide)); rwa [e] at this

/-- Tokens, where the plain scan refuses the text. -/
theorem tokens_bad (s : ByteArray) (n er : Nat) (w : World) (hL : Laid w) (h : Lex.tokens s.data.toList = .error (n, er)) :
    Calls Tryz.prog 15 #[.string s] w fun e w' => ∃ p, e = .returned (.tuple #[.slice none 0 0, .iface 94 (.pointer (some ⟨p, 0, none⟩))]) ∧ p < w'.heap.size ∧
      w'.heap[p]? = some (.cells #[.int .i64 n, .iface 41 (.int .i64 er)] 96 (0, 0)) ∧ Below w.heap.size w w' := by
  refine (tokens_any s w hL).mono ?_
  rintro e w' ⟨hm, hb⟩
  rw [h] at hm
  obtain ⟨p, rfl, _, hp⟩ := hm
  exact ⟨p, rfl, (Array.getElem?_eq_some_iff.1 hp).1, hp, hb⟩
end Go.Proofs.YtgidnbkbmjjihaaGreatDoor
