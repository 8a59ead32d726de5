/- The law's own trial (works), walked: two texts and a keyword. -/
import Derived.Test.YtgidnbkbmjjihaaGreatDoorLexO
namespace Go.Proofs.YtgidnbkbmjjihaaGreatDoor
open Go.RowKit

set_option maxRecDepth 100000 in
set_option maxHeartbeats 2000000 in
theorem keyword_from (w : World) (hL : Laid w) :
    Calls Tryz.prog 41 #[.string ⟨#[102, 114, 111, 109]⟩] w fun e w' => e = .returned (.bool true) ∧ w = w' := by
  obtain ⟨m, hm⟩ := hL.maxLen
  have HC : ∀ s sub : ByteArray, s.size < 4294967281 → Calls Tryz.prog 91 #[.string s, .string sub] w fun e w' => e = .returned (.bool (Lib.contains s.data.toList sub.data.toList)) ∧ w' = w := fun s sub hs => Tryz.strings_Contains s sub m w hs hm
  have HD := Lib.hid HC
  clear HC hm hL
  go_enter Tryz.func41, Tryz.ntmps41
  go_wp2_with (go_at_call 91; refine (HD.out _ _ ?_).mono ?_; rotate_left; rintro e w1 ⟨rfl, rfl⟩; rotate_left)
  · decide
  · decide
  · go_ret
    exact ⟨ret_b (by kernel_rfl), rfl⟩

def text1 : ByteArray := ⟨#[83, 69, 76, 69, 67, 84, 32, 97, 49, 44, 32, 39, 105, 116, 39, 39, 115, 39, 32, 45, 45, 32, 120]⟩
def text2 : ByteArray := ⟨#[57, 50, 50, 51, 51, 55, 50, 48, 51, 54, 56, 53, 52, 55, 55, 53, 56, 48, 56]⟩
def words1 : List Lex.Tok := [⟨1, [115, 101, 108, 101, 99, 116], 0, 0⟩, ⟨1, [97, 49], 7, 0⟩, ⟨5, [44], 9, 0⟩, ⟨3, [105, 116, 39, 115], 11, 0⟩]

def okIs (x : Except (Nat × Nat) (List Lex.Tok)) (l : List Lex.Tok) : Bool := match x with
  | .ok m => decide (m = l)
  | .error _ => false
def errIs (x : Except (Nat × Nat) (List Lex.Tok)) (p : Nat × Nat) : Bool := match x with
  | .ok _ => false
  | .error q => decide (q = p)
theorem okIs_eq {x : Except (Nat × Nat) (List Lex.Tok)} {l : List Lex.Tok} (h : okIs x l = true) : x = .ok l := by
  unfold okIs at h
  split at h
  · rw [of_decide_eq_true h]
  · cases h
theorem errIs_eq {x : Except (Nat × Nat) (List Lex.Tok)} {p : Nat × Nat} (h : errIs x p = true) : x = .error p := by
  unfold errIs at h
  split at h
  · cases h
  · rw [of_decide_eq_true h]

theorem words1_eq : Lex.tokens text1.data.toList = .ok words1 := okIs_eq (by kernel_rfl)
theorem words2_eq : Lex.tokens text2.data.toList = .error (0, 20) := errIs_eq (by kernel_rfl)

theorem tokens_any (s : ByteArray) (w : World) (hL : Laid w) : Calls Tryz.prog 15 #[.string s] w (TokensPost s w) := by
  rcases Nat.lt_or_ge 16384 s.size with h | h
  · exact tokens_long s w h
  · exact tokens_short s w h hL

/-- The words of the first text, as they lie. -/
theorem first_words (w : World) (hL : Laid w) : Calls Tryz.prog 15 #[.string text1] w fun e w' => ∃ g cap, e = .returned (.tuple #[.slice (some ⟨g, 0, none⟩) 4 cap, .nilIface]) ∧ g < w'.heap.size ∧
    (∀ j u, (words1.flatMap tokCells)[j]? = some u → w'.cell? ⟨g, j, none⟩ = some u) ∧ Below w.heap.size w w' := by
  refine (tokens_any text1 w hL).mono ?_
  rintro e w' ⟨h, hb⟩
  rw [words1_eq] at h
  obtain ⟨v, rfl, ho⟩ := h
  obtain ⟨g, cap, rfl, _, hlt⟩ := ho.form (by decide)
  refine ⟨g, cap, rfl, hlt, fun j u hj => ?_, hb⟩
  have hc := ho.cells (g := g) rfl j u hj
  have e : (⟨g, 0, none⟩ : Addr).add j = ⟨g, j, none⟩ := by unfold Addr.add; split <;> simp_all
  rwa [e] at hc

theorem second_words (w : World) (hL : Laid w) : Calls Tryz.prog 15 #[.string text2] w fun e w' => ∃ v p, e = .returned (.tuple #[v, .iface 94 (.pointer (some ⟨p, 0, none⟩))]) ∧
    w'.heap[p]? = some (.cells #[.int .i64 0, .iface 41 (.int .i64 20)] 96 (0, 0)) ∧ Below w.heap.size w w' := by
  refine (tokens_any text2 w hL).mono ?_
  rintro e w' ⟨h, hb⟩
  rw [words2_eq] at h
  obtain ⟨p, rfl, _, hp⟩ := h
  exact ⟨_, p, rfl, hp, hb⟩

set_option maxRecDepth 100000 in
set_option maxHeartbeats 4000000 in
theorem works_any (w : World) (hL : LaidE w) : Calls Tryz.prog 14 #[] w fun e w' => e = .returned (.bool true) ∧ Below w.heap.size w w' := by
  have H1 := Lib.hid (first_words w hL.base)
  have HL := Lib.hid hL
  unfold text1 at H1
  clear hL
  have HSec : ∀ w1, Below w.heap.size w w1 → Hid (Calls Tryz.prog 15 #[.string text2] w1 _) := fun w1 h => Lib.hid (second_words w1 (HL.out.of_below h).base)
  unfold text2 at HSec
  go_enter Tryz.func14, Tryz.ntmps14
  go_wp2_with (first
    | (go_at_call 15; (with_reducible refine H1.out.mono ?_); rintro e w1 ⟨g, cap, rfl, hg, hc, hb1⟩; have HB1 := Lib.hid hb1; have HC := Lib.hid hc; clear hc hb1)
    | (go_at_call 15; (with_reducible refine (HSec w1 HB1.out).out.mono ?_); rintro e w2 ⟨v, p, rfl, hp, hb2⟩
       have hs2 := hb2.size
       have hcc : ∀ j u, (words1.flatMap tokCells)[j]? = some u → w2.cell? ⟨g, j, none⟩ = some u := fun j u h => (hb2.cell (p := ⟨g, j, none⟩) hg).trans (HC.out j u h)
       have k1 : w2.cell? ⟨g, 1, none⟩ = some (.string ⟨#[115, 101, 108, 101, 99, 116]⟩) := hcc 1 _ rfl
       have k12 : w2.cell? ⟨g, 12, none⟩ = some (.int .i64 3) := hcc 12 _ rfl
       have k13 : w2.cell? ⟨g, 13, none⟩ = some (.string ⟨#[105, 116, 39, 115]⟩) := hcc 13 _ rfl
       have k14 : w2.cell? ⟨g, 14, none⟩ = some (.int .i64 11) := hcc 14 _ rfl
       have k15 : w2.cell? ⟨g, 15, none⟩ = some (.int .i64 0) := hcc 15 _ rfl
       have HB2 : Hid (Below w.heap.size w w2) := Lib.hid (HB1.out.trans (hb2.mono HB1.out.size))
       have HS := Lib.hid (seen_fault p 0 20 w2 (HL.out.of_below HB2.out) hp)
       clear hb2 hp hcc)
    | (go_at_call 28; (with_reducible refine HS.out.mono ?_); rintro e w3 ⟨rfl, hb3⟩; have HB3 : Hid (Below w.heap.size w w3) := Lib.hid (HB2.out.trans (hb3.mono HB2.out.size)); clear hb3)
    | (go_at_call 41; (with_reducible refine (keyword_from w3 (HL.out.of_below HB3.out).base).mono ?_); rintro e w4 ⟨rfl, rfl⟩))
  go_ret
  exact ⟨rfl, HB3.out⟩
end Go.Proofs.YtgidnbkbmjjihaaGreatDoor
