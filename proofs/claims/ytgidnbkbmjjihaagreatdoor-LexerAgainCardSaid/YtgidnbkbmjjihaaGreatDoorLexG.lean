/- A blob at the front, walked: pairs of hexadecimal digits between two quotes. -/
import Derived.Test.YtgidnbkbmjjihaaGreatDoorLexF
import Derived.Lib.IndexBytes
namespace Go.Proofs.YtgidnbkbmjjihaaGreatDoor
open Go.RowKit

/-- What the package-level variables hold that the lexer's calls read. -/
structure Laid (w : World) : Prop where
  lt : 0 < w.heap.size ∧ 1 < w.heap.size ∧ 3 < w.heap.size ∧ 4 < w.heap.size
  maxLen : ∃ m, w.cell? ⟨1, 0, none⟩ = some (.int .i64 m)
  syn : ∃ te pe, w.cell? ⟨3, 0, none⟩ = some (.iface te pe)
  rng : ∃ te pe, w.cell? ⟨4, 0, none⟩ = some (.iface te pe)

theorem Laid.below {w w' : World} {B : Nat} (h : Laid w) (hB : w.heap.size ≤ B) (hb : Below B w w') : Laid w' := by
  obtain ⟨⟨l1, l2, l3, l4⟩, ⟨m, hm⟩, ⟨t1, p1, h1⟩, ⟨t2, p2, h2⟩⟩ := h
  have hs := hb.size
  refine ⟨⟨by omega, by omega, by omega, by omega⟩, ⟨m, ?_⟩, ⟨t1, p1, ?_⟩, ⟨t2, p2, ?_⟩⟩
  · rw [hb.cell (p := ⟨_, 0, none⟩) (by show (1 : Nat) < B; omega)]; exact hm
  · rw [hb.cell (p := ⟨_, 0, none⟩) (by show (3 : Nat) < B; omega)]; exact h1
  · rw [hb.cell (p := ⟨_, 0, none⟩) (by show (4 : Nat) < B; omega)]; exact h2

/-- And the handle that errors.As reads. -/
structure LaidE (w : World) : Prop where
  base : Laid w
  et : w.cell? ⟨0, 0, none⟩ = some (.iface 273 (.agg #[.pointer (some ⟨9, 25, none⟩)]))

theorem LaidE.below {w w' : World} {B : Nat} (h : LaidE w) (hB : w.heap.size ≤ B) (hb : Below B w w') : LaidE w' :=
  ⟨h.base.below hB hb, by rw [hb.cell (p := ⟨_, 0, none⟩) (by have := h.base.lt.1; show (0 : Nat) < B; omega)]; exact h.et⟩

theorem hex2_any (s : ByteArray) (w : World) (hs : s.size = 2) (hL : Laid w) :
    Calls Tryz.prog 186 #[.string s, .int .i64 16, .int .i64 8] w fun e w' => (match hexNum s.data.toList 0 with
      | some n => e = .returned (.tuple #[.int .u64 n, .nilIface])
      | none => ∃ p, e = .returned (.tuple #[.int .u64 0, .iface 315 p])) ∧ Below w.heap.size w w' := by
  obtain ⟨te, pe, hse⟩ := hL.syn
  have hlt : 3 < w.heap.size := World.block_lt_of_cell? w _ hse
  have HU := Lib.hid (uint16_any s w hs)
  have HT : ∀ w1, Below w.heap.size w w1 → Hid (Calls Tryz.prog 189 #[.string ⟨#[80, 97, 114, 115, 101, 85, 105, 110, 116]⟩, .string s, .int .i64 16, .int .i64 8, .iface 314 (.int .i64 2)] w1 fun e w' => ∃ N, e = .returned (.iface 315 (.pointer (some ⟨N, 0, none⟩))) ∧ Below w1.heap.size w1 w') := fun w1 hb =>
    Lib.hid ((Tryz.strconv_toError_syntax ⟨#[80, 97, 114, 115, 101, 85, 105, 110, 116]⟩ s 16 8 (.iface te pe) w1 (by omega) (by rw [hb.cell (p := ⟨_, 0, none⟩) hlt]; exact hse) (.inr ⟨te, pe, rfl⟩)).mono fun e w' ⟨N, h1, _, _, h4⟩ => ⟨N, h1, h4⟩)
  clear hse hlt hs
  rcases hn : hexNum s.data.toList 0 with _ | n
  · rw [hexAns_none hn] at HU
    have HN := Lib.hid hn
    clear hn
    go_enter Tryz.func186, Tryz.ntmps186
    go_wp2_with (first | (go_at_call 261; (with_reducible refine HU.out.mono ?_); rintro e w1 ⟨rfl, hb1⟩) | (go_at_call 189; (with_reducible refine (HT _ hb1).out.mono ?_); rintro e w2 ⟨N, rfl, hb2⟩))
    go_ret2
    exact ⟨⟨_, rfl⟩, hb1.trans (hb2.mono hb1.size)⟩
  · rw [hexAns_some hn] at HU
    have HN := Lib.hid hn
    clear hn
    go_enter Tryz.func186, Tryz.ntmps186
    go_wp2_with (first | (go_at_call 261; (with_reducible refine HU.out.mono ?_); rintro e w1 ⟨rfl, hb1⟩))
    go_ret2
    exact ⟨rfl, hb1⟩

/-- Cut at a quote. -/
theorem cut_quote (l : List UInt8) : Lib.cut l [39] = if 39 ∈ l then (l.takeWhile (fun c => c != 39), (Lib.cut l [39]).2.1, true) else (l, [], false) := by
  have hi : ∀ l : List UInt8, Lib.index l [39] = if 39 ∈ l then ((l.takeWhile (fun c => c != 39)).length : Int) else -1 := by
    intro l
    rw [Lib.index_one]
    induction l with
    | nil => simp [Lib.indexByte]
    | cons a l ih =>
      simp only [Lib.indexByte, ih, List.mem_cons, List.takeWhile_cons]
      by_cases ha : a = 39
      · simp [ha]
      · have ha' : ¬ (39 : UInt8) = a := fun e => ha e.symm
        have hb : (a == 39) = false := by simpa using ha
        have hb2 : (a != 39) = true := by simpa using ha
        rw [hb, hb2]
        by_cases hm : 39 ∈ l
        · simp only [hm, if_true, or_true, List.length_cons]
          rw [if_neg (by simp), if_neg (by simp)]
          push_cast
          rfl
        · simp [hm, ha']
  unfold Lib.cut
  rw [hi]
  by_cases hm : 39 ∈ l
  · rw [if_pos hm, if_pos (by omega), if_pos hm]
    simp only [Int.toNat_natCast, Prod.mk.injEq, and_true, true_and]
    have h1 := List.takeWhile_append_dropWhile (p := fun c : UInt8 => c != 39) (l := l)
    have h2 := List.take_left (l₁ := l.takeWhile (fun c => c != 39)) (l₂ := l.dropWhile (fun c => c != 39))
    rw [h1] at h2
    exact h2
  · rw [if_neg hm, if_neg (by omega), if_neg hm]

def blobAns (s : ByteArray) : List UInt8 × Nat := match Lex.blobOf s.data.toList with
  | some p => p
  | none => ([], 0)

/-- What blob answers, k digits gone through and the bytes l0 gathered. -/
def BlobAt (ds : List UInt8) (k : Nat) (l0 : List UInt8) : Prop := Lex.hexPairs ds = (Lex.hexPairs (ds.drop k)).map fun l => l0 ++ l

theorem BlobAt.start (ds : List UInt8) : BlobAt ds 0 [] := by unfold BlobAt; cases h : Lex.hexPairs ds <;> simp [h]

theorem drop_two (ds : List UInt8) (k : Nat) (h : k + 2 ≤ ds.length) : ∃ a b, ds.drop k = a :: b :: ds.drop (k + 2) ∧ (ds.drop k).take 2 = [a, b] := by
  refine ⟨ds[k], ds[k + 1], ?_, ?_⟩
  · rw [List.drop_eq_getElem_cons (by omega), List.drop_eq_getElem_cons (by omega)]
  · rw [List.drop_eq_getElem_cons (by omega), List.drop_eq_getElem_cons (by omega)]; rfl

theorem BlobAt.bad {ds : List UInt8} {k : Nat} {l0 : List UInt8} (h : BlobAt ds k l0) (hk : k + 2 ≤ ds.length) (hn : hexNum ((ds.drop k).take 2) 0 = none) : Lex.hexPairs ds = none := by
  unfold BlobAt at h
  obtain ⟨a, b, e1, e2⟩ := drop_two ds k hk
  rw [h, e1]
  rw [e2] at hn
  simp only [hexNum] at hn
  simp only [Lex.hexPairs]
  cases ha : Lex.hexVal a with
  | none => rfl
  | some x =>
    rw [ha] at hn
    simp only [] at hn
    cases hb : Lex.hexVal b with
    | none => rfl
    | some y => rw [hb] at hn; simp at hn

theorem hexVal_lt {c : UInt8} {x : Nat} (h : Lex.hexVal c = some x) : x < 16 ∧ c.toNat < 128 ∧ c ≠ 43 ∧ c ≠ 45 ∧ c ≠ 95 := by
  unfold Lex.hexVal at h
  have hc := c.toNat_lt
  have n1 : c = 43 → c.toNat = 43 := fun e => by rw [e]; rfl
  have n2 : c = 45 → c.toNat = 45 := fun e => by rw [e]; rfl
  have n3 : c = 95 → c.toNat = 95 := fun e => by rw [e]; rfl
  split at h
  · injection h with h; refine ⟨by omega, by omega, fun e => by have := n1 e; omega, fun e => by have := n2 e; omega, fun e => by have := n3 e; omega⟩
  · split at h
    · injection h with h; refine ⟨by omega, by omega, fun e => by have := n1 e; omega, fun e => by have := n2 e; omega, fun e => by have := n3 e; omega⟩
    · split at h
      · injection h with h; refine ⟨by omega, by omega, fun e => by have := n1 e; omega, fun e => by have := n2 e; omega, fun e => by have := n3 e; omega⟩
      · cases h

theorem BlobAt.good {ds : List UInt8} {k : Nat} {l0 : List UInt8} (h : BlobAt ds k l0) (hk : k + 2 ≤ ds.length) {n : Nat} (hn : hexNum ((ds.drop k).take 2) 0 = some n) :
    n < 256 ∧ BlobAt ds (k + 2) (l0 ++ [UInt8.ofNat n]) ∧ (∀ (j : Nat) b, ((ds.drop k).take 2)[j]? = some b → b.toNat < 128) ∧ Lib.containsAny ((ds.drop k).take 2) [43, 45, 95] = false := by
  obtain ⟨a, b, e1, e2⟩ := drop_two ds k hk
  rw [e2] at hn ⊢
  simp only [hexNum] at hn
  cases ha : Lex.hexVal a with
  | none => rw [ha] at hn; simp at hn
  | some x =>
    rw [ha] at hn
    simp only [] at hn
    cases hb : Lex.hexVal b with
    | none => rw [hb] at hn; simp at hn
    | some y =>
      rw [hb] at hn
      simp at hn
      obtain ⟨h1, h2, h3, h4, h5⟩ := hexVal_lt ha
      obtain ⟨g1, g2, g3, g4, g5⟩ := hexVal_lt hb
      refine ⟨by omega, ?_, ?_, ?_⟩
      · unfold BlobAt at *
        rw [h, e1]
        simp only [Lex.hexPairs, ha, hb, Option.map_map]
        congr 1
        funext l
        simp [← hn]
      · intro j q hq
        match j, hq with
        | 0, hq => simp at hq; subst hq; exact h2
        | 1, hq => simp at hq; subst hq; exact g2
      · simp [Lib.containsAny, Lib.indexAny, h3, h4, h5, g3, g4, g5]

theorem BlobAt.odd (ds : List UInt8) (h : ds.length % 2 = 1) : Lex.hexPairs ds = none := by
  suffices ∀ n, ∀ ds : List UInt8, ds.length ≤ n → ds.length % 2 = 1 → Lex.hexPairs ds = none from this ds.length ds (Nat.le_refl _) h
  intro n
  induction n with
  | zero => intro ds h1 h2; omega
  | succ n ih =>
    intro ds h1 h2
    match ds, h1, h2 with
    | [], _, h2 => simp at h2
    | [_], _, _ => rfl
    | a :: b :: r, h1, h2 =>
      simp only [Lex.hexPairs]
      rw [ih r (by simp at h1; omega) (by simp at h2; omega)]
      cases Lex.hexVal a <;> cases Lex.hexVal b <;> rfl
end Go.Proofs.YtgidnbkbmjjihaaGreatDoor
