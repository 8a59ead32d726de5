/- A value's literal, and a word's print: walked. -/
import Derived.Test.YtgidnbkbmjjihaaGreatDoorLexW
namespace Go.Proofs.YtgidnbkbmjjihaaGreatDoor
open Go.RowKit

/-- A value as it stands in a statement. -/
def literalOf (k i : Int) (s : ByteArray) : List UInt8 :=
  if checkV k i s ≠ 0 then []
  else if k = 1 then (if i = 1 then [84, 82, 85, 69] else [70, 65, 76, 83, 69])
  else if k = 2 then Lib.itoa i
  else if k = 3 then 39 :: Lex.quote s.data.toList ++ [39]
  else if k = 4 then 88 :: 39 :: Lex.hexOf s.data.toList ++ [39]
  else [78, 85, 76, 76]

theorem checkV_cases (k i : Int) (s : ByteArray) : checkV k i s = 0 → k = 0 ∨ k = 1 ∨ k = 2 ∨ k = 3 ∨ k = 4 := by
  unfold checkV
  intro h
  by_cases h0 : k = 0; · exact .inl h0
  by_cases h1 : k = 1; · exact .inr (.inl h1)
  by_cases h2 : k = 2; · exact .inr (.inr (.inl h2))
  by_cases h3 : k = 3; · exact .inr (.inr (.inr (.inl h3)))
  by_cases h4 : k = 4; · exact .inr (.inr (.inr (.inr h4)))
  simp [h0, h1, h2, h3, h4] at h

theorem hexTab_get (n : Nat) (h : n < 16) (h' : n < (⟨#[48, 49, 50, 51, 52, 53, 54, 55, 56, 57, 65, 66, 67, 68, 69, 70]⟩ : ByteArray).size) : (⟨#[48, 49, 50, 51, 52, 53, 54, 55, 56, 57, 65, 66, 67, 68, 69, 70]⟩ : ByteArray)[n]'h' = Lex.hexD n := by
  have : n = 0 ∨ n = 1 ∨ n = 2 ∨ n = 3 ∨ n = 4 ∨ n = 5 ∨ n = 6 ∨ n = 7 ∨ n = 8 ∨ n = 9 ∨ n = 10 ∨ n = 11 ∨ n = 12 ∨ n = 13 ∨ n = 14 ∨ n = 15 := by omega
  rcases this with rfl | rfl | rfl | rfl | rfl | rfl | rfl | rfl | rfl | rfl | rfl | rfl | rfl | rfl | rfl | rfl <;> rfl

theorem hexOf_step (s : ByteArray) (k : Nat) (h : k < s.size) (a b : UInt8) (ha : a = Lex.hexD (s[k].toNat / 16)) (hb : b = Lex.hexD (s[k].toNat % 16)) :
    Lib.byteCells (88 :: 39 :: Lex.hexOf (s.data.toList.take k)) ++ [.int .u8 a.toNat] ++ [.int .u8 b.toNat] = Lib.byteCells (88 :: 39 :: Lex.hexOf (s.data.toList.take (k + 1))) := by
  rw [← byteCells_snoc, ← byteCells_snoc]
  congr 1
  have e : s.data.toList.take (k + 1) = s.data.toList.take k ++ [s[k]] := by
    have h' : k < s.data.toList.length := by rw [toList_length]; exact h
    rw [List.take_add_one, List.getElem?_eq_getElem h']
    rfl
  rw [e, ha, hb]
  simp [Lex.hexOf]

set_option maxRecDepth 100000 in
set_option maxHeartbeats 4000000 in
theorem literal_blob (s : ByteArray) (w : World) (hs : s.size ≤ 1000000000) :
    Calls Tryz.prog 46 #[.agg #[.int .i64 4, .int .i64 0, .string s]] w fun e w' => e = .returned (.string ⟨(88 :: 39 :: Lex.hexOf s.data.toList ++ [39]).toArray⟩) ∧ Below w.heap.size w w' := by
  have HC : ∀ W, Hid (Calls Tryz.prog 104 #[.agg #[.int .i64 4, .int .i64 0, .string s]] W fun e w' => e = .returned (.int .i64 0) ∧ Below W.heap.size W w') := fun W => Lib.hid (check_any 4 0 s W)
  go_enter Tryz.func46, Tryz.ntmps46
  go_upto_block 16 with (first
    | (go_at_call 104; (with_reducible refine (HC _).out.mono ?_); rintro e w1 ⟨rfl, h1⟩; 
       have hw1 : w.heap.size < w1.heap.size := by have := h1.size; simp at this; omega
       have b0 : w1.cell? ⟨w.heap.size, 0, none⟩ = some (.int .i64 4) := by rw [h1.cell (p := ⟨w.heap.size, 0, none⟩) (by simp)]; simp
       have b2 : w1.cell? ⟨w.heap.size, 2, none⟩ = some (.string s) := by rw [h1.cell (p := ⟨w.heap.size, 2, none⟩) (by simp)]; simp
       have H1 := Lib.hid h1
       clear h1)
    | (go_at_call 106
       (refine (writeString_any w1.heap.size w1.heap.size [] ⟨#[88, 39]⟩ _ (Lib.fresh_isBuilder 177 5 w1) (by decide) (by simp)).mono ?_)
       rintro e w2 ⟨rfl, hb2, h2⟩
       have HB2 := Lib.hid hb2
       have H2 : Hid (Below w1.heap.size w1 w2) := Lib.hid (((Below.refl _ _).alloc (Nat.le_refl _) _).trans h2)
       have c2 : w2.cell? ⟨w.heap.size, 2, none⟩ = some (.string s) := (H2.out.cell (p := ⟨w.heap.size, 2, none⟩) hw1).trans b2
       clear hb2 h2))
  go_loopw [34] (fun i wr => ∃ k : Nat, i = .int .i64 k ∧ k ≤ s.size ∧ Lib.IsBuilder 177 5 w1.heap.size w1.heap.size (Lib.byteCells (88 :: 39 :: Lex.hexOf (s.data.toList.take k))) wr ∧ Below w1.heap.size w1 wr) (fun i _ => s.size - (intOf i).toNat)
  case atStart => exact ⟨0, rfl, Nat.zero_le _, .inr HB2.out, H2.out⟩
  case round =>
    obtain ⟨k, rfl, hk, hb, hbl⟩ := hrel
    have HBu := Lib.hid hb
    have HBl := Lib.hid hbl
    have c0 : wr.cell? ⟨w.heap.size, 0, none⟩ = some (.int .i64 4) := (hbl.cell (p := ⟨w.heap.size, 0, none⟩) hw1).trans b0
    have c2 : wr.cell? ⟨w.heap.size, 2, none⟩ = some (.string s) := (hbl.cell (p := ⟨w.heap.size, 2, none⟩) hw1).trans b2
    clear hb hbl
    by_cases hlt : k < s.size
    · have hd0 : (0 : Int) ≤ (s[k].toNat : Int) / 16 := by omega
      have hd1 : (s[k].toNat : Int) / 16 < 16 := by have := s[k].toNat_lt; omega
      have hsz := HBl.out.size
      have hlen : (Lib.byteCells (88 :: 39 :: Lex.hexOf (s.data.toList.take k))).length ≤ 2000000002 := by
        rw [byteCells_length]
        simp only [List.length_cons]
        rw [Lex.hexOf_len, List.length_take]
        omega
      go_wp2_with (first
        | (go_at_call 107
           (refine (writeByte_any w1.heap.size w1.heap.size _ _ wr HBu.out (by omega) hsz).mono ?_)
           rintro e w2 ⟨rfl, hb2, h2⟩
           have HB2 := Lib.hid hb2
           have H2 : Hid (Below w1.heap.size w1 w2) := Lib.hid (HBl.out.trans h2)
           have d2 : w2.cell? ⟨w.heap.size, 2, none⟩ = some (.string s) := (H2.out.cell (p := ⟨w.heap.size, 2, none⟩) hw1).trans b2
           clear hb2 h2)
        | (go_at_call 107
           (refine (writeByte_any w1.heap.size w1.heap.size _ _ w2 (.inr HB2.out) (by rw [List.length_append]; simp only [List.length_cons, List.length_nil]; omega) H2.out.size).mono ?_)
           rintro e w3 ⟨rfl, hb3, h3⟩
           have HB3 := Lib.hid hb3
           have H3 : Hid (Below w1.heap.size w1 w3) := Lib.hid (H2.out.trans h3)
           clear hb3 h3))
      go_roundw
      case rel =>
        refine ⟨k + 1, by go_num, by omega, .inr ?_, H3.out⟩
        have h := HB3.out
        rw [hexOf_step s k hlt _ _ (hexTab_get _ (by omega) _) (hexTab_get _ (by omega) _)] at h
        exact h
      case measure => simp [intOf]; omega
    · obtain rfl : k = s.size := by omega
      have hsz := HBl.out.size
      have hlen : (Lib.byteCells (88 :: 39 :: Lex.hexOf (s.data.toList.take s.size))).length ≤ 2000000002 := by
        rw [byteCells_length]
        simp only [List.length_cons]
        rw [Lex.hexOf_len, List.length_take]
        omega
      have ht : s.data.toList.take s.size = s.data.toList := List.take_of_length_le (by rw [toList_length]; exact Nat.le_refl _)
      rw [ht] at HBu hlen
      clear ht
      go_wp2_with (first
        | (go_at_call 107
           (refine (writeByte_any w1.heap.size w1.heap.size _ _ wr HBu.out (by omega) hsz).mono ?_)
           rintro e w2 ⟨rfl, hb2, h2⟩
           have HB2 := Lib.hid hb2
           have H2 : Hid (Below w1.heap.size w1 w2) := Lib.hid (HBl.out.trans h2)
           clear hb2 h2)
        | (go_at_call 108
           (refine (Tryz.Builder_String_any _ _ (88 :: 39 :: Lex.hexOf s.data.toList ++ [39]) _ (.inr ?_) H2.out.size).mono ?_)
           rotate_left
           rintro e w3 ⟨rfl, h3⟩
           have H3 := Lib.hid h3
           clear h3
           rotate_left))
      · have h := HB2.out
        rw [show ((39 : Int) : Int) = (((39 : UInt8).toNat : Nat) : Int) from rfl, ← byteCells_snoc] at h
        exact h
      · go_ret
        refine ⟨by simp, ?_⟩
        have h1 := H1.out
        have hsz1 := h1.size
        simp only [World.alloc, Array.size_push] at hsz1
        exact (((Below.refl _ _).alloc (Nat.le_refl _) _).trans (h1.mono (by simp))).trans ((H2.out.trans H3.out).mono (by omega))

theorem box_below {w w1 w2 : World} {o : Obj} (h1 : Below (w.alloc o).heap.size (w.alloc o) w1) (h2 : Below w1.heap.size w1 w2) : Below w.heap.size w w2 := by
  have hs := h1.size
  simp only [World.alloc, Array.size_push] at hs
  exact (((Below.refl _ _).alloc (Nat.le_refl _) _).trans (h1.mono (by simp))).trans (h2.mono (by omega))

set_option maxRecDepth 100000 in
set_option maxHeartbeats 4000000 in
/-- A value's literal. -/
theorem literal_any (k i : Int) (s : ByteArray) (w : World) (hk : k = 3 ∨ k = 4 → s.size ≤ 1000000000) (hi : k = 2 → -9223372036854775808 ≤ i ∧ i ≤ 9223372036854775807) (hL : LaidT w) :
    Calls Tryz.prog 46 #[.agg #[.int .i64 k, .int .i64 i, .string s]] w fun e w' => e = .returned (.string ⟨(literalOf k i s).toArray⟩) ∧ Below w.heap.size w w' := by
  have HC : ∀ W, Hid (Calls Tryz.prog 104 #[.agg #[.int .i64 k, .int .i64 i, .string s]] W fun e w' => e = .returned (.int .i64 (checkV k i s)) ∧ Below W.heap.size W w') := fun W => Lib.hid (check_any k i s W)
  have HL := Lib.hid hL
  clear hL
  by_cases hc : checkV k i s = 0
  · have hck := hc
    rw [hc] at HC
    rcases checkV_cases k i s hc with rfl | rfl | rfl | rfl | rfl
    · have hl : literalOf 0 i s = [78, 85, 76, 76] := by simp [literalOf, hc]
      rw [hl]
      clear hl hc hck hk hi
      go_enter Tryz.func46, Tryz.ntmps46
      go_wp2_with (go_at_call 104; (with_reducible refine (HC _).out.mono ?_); rintro e w1 ⟨rfl, h1⟩
                   have b0 : w1.cell? ⟨w.heap.size, 0, none⟩ = some (.int .i64 0) := by rw [h1.cell (p := ⟨w.heap.size, 0, none⟩) (by simp)]; simp
                   have H1 := Lib.hid h1
                   clear h1)
      go_ret
      exact ⟨rfl, box_below H1.out (Below.refl _ _)⟩
    · have hl : literalOf 1 i s = (if i = 1 then [84, 82, 85, 69] else [70, 65, 76, 83, 69]) := by simp [literalOf, hc]
      rw [hl]
      clear hl hc hck hk hi
      by_cases h1 : i = 1
      · subst h1
        rw [if_pos rfl]
        go_enter Tryz.func46, Tryz.ntmps46
        go_wp2_with (go_at_call 104; (with_reducible refine (HC _).out.mono ?_); rintro e w1 ⟨rfl, h1⟩
                     have b0 : w1.cell? ⟨w.heap.size, 0, none⟩ = some (.int .i64 1) := by rw [h1.cell (p := ⟨w.heap.size, 0, none⟩) (by simp)]; simp
                     have b1 : w1.cell? ⟨w.heap.size, 1, none⟩ = some (.int .i64 1) := by rw [h1.cell (p := ⟨w.heap.size, 1, none⟩) (by simp)]; simp
                     have H1 := Lib.hid h1
                     clear h1)
        go_ret
        exact ⟨rfl, box_below H1.out (Below.refl _ _)⟩
      · rw [if_neg h1]
        have h1' : (i == 1) = false := by simpa using h1
        go_enter Tryz.func46, Tryz.ntmps46
        go_wp2_with (go_at_call 104; (with_reducible refine (HC _).out.mono ?_); rintro e w1 ⟨rfl, h1⟩
                     have b0 : w1.cell? ⟨w.heap.size, 0, none⟩ = some (.int .i64 1) := by rw [h1.cell (p := ⟨w.heap.size, 0, none⟩) (by simp)]; simp
                     have b1 : w1.cell? ⟨w.heap.size, 1, none⟩ = some (.int .i64 i) := by rw [h1.cell (p := ⟨w.heap.size, 1, none⟩) (by simp)]; simp
                     have H1 := Lib.hid h1
                     clear h1)
        go_ret
        exact ⟨rfl, box_below H1.out (Below.refl _ _)⟩
    · have hl : literalOf 2 i s = Lib.itoa i := by simp [literalOf, hc]
      rw [hl]
      have hi2 := hi rfl
      have HF : ∀ W, Below w.heap.size w W → Hid (Calls Tryz.prog 45 #[.int .i64 i, .int .i64 10] W _) := fun W h => Lib.hid (formatInt_any i hi2.1 hi2.2 W (HL.out.of_below h))
      clear hl hc hck hk hi
      go_enter Tryz.func46, Tryz.ntmps46
      go_wp2_with (first
        | (go_at_call 104; (with_reducible refine (HC _).out.mono ?_); rintro e w1 ⟨rfl, h1⟩
           have b0 : w1.cell? ⟨w.heap.size, 0, none⟩ = some (.int .i64 2) := by rw [h1.cell (p := ⟨w.heap.size, 0, none⟩) (by simp)]; simp
           have b1 : w1.cell? ⟨w.heap.size, 1, none⟩ = some (.int .i64 i) := by rw [h1.cell (p := ⟨w.heap.size, 1, none⟩) (by simp)]; simp
           have H1 := Lib.hid h1
           clear h1)
        | (go_at_call 45; (with_reducible refine (HF w1 (box_below H1.out (Below.refl _ _))).out.mono ?_); rintro e w2 ⟨rfl, h2⟩; have H2 := Lib.hid h2; clear h2))
      go_ret
      exact ⟨rfl, box_below H1.out H2.out⟩
    · have h0 : i = 0 := by
        by_cases h0 : i = 0
        · exact h0
        · simp [checkV, h0] at hc
      subst h0
      have hl : literalOf 3 0 s = 39 :: Lex.quote s.data.toList ++ [39] := by simp [literalOf, hc]
      rw [hl]
      have hk3 := hk (.inl rfl)
      obtain ⟨m, hm⟩ := HL.out.1.maxLen
      obtain ⟨R, HR⟩ : ∃ R : ByteArray, Hid (R = ⟨(Lex.quote s.data.toList).toArray⟩) := ⟨_, rfl⟩
      have hRl : R.size ≤ 2000000000 := by
        rw [HR.out]
        have := Lex.quote_len s.data.toList
        rw [toList_length] at this
        show (Lex.quote s.data.toList).toArray.size ≤ _
        simp only [List.size_toArray]
        omega
      have hml := HL.out.1.lt.2.1
      have HRA : ∀ W, Below w.heap.size w W → Hid (Calls Tryz.prog 105 #[.string s, .string ⟨#[39]⟩, .string ⟨#[39, 39]⟩] W fun e w' => e = .returned (.string R) ∧ Below W.heap.size W w') := fun W h => Lib.hid (by
        have hcb : Lib.countB s ⟨#[39]⟩ ≤ s.size := by
          show Lib.count s.data.toList [39] ≤ _
          rw [Lib.count_one, ← toList_length s]
          exact List.count_le_length
        have := Tryz.strings_ReplaceAll s ⟨#[39]⟩ ⟨#[39, 39]⟩ m W (by omega) ((h.cell (p := ⟨1, 0, none⟩) hml).trans hm) (by decide) (by
          have e : (⟨#[39, 39]⟩ : ByteArray).size = 2 := rfl
          rw [e]; omega)
        refine this.mono ?_
        rintro e w' ⟨rfl, hb⟩
        refine ⟨?_, hb⟩
        rw [HR.out]
        show Ending.returned (.string ⟨(Lib.replaceAll s.data.toList [39] [39, 39]).toArray⟩) = _
        rw [replaceAll_quote])
      have hfin : (⟨#[39]⟩ ++ R ++ ⟨#[39]⟩ : ByteArray) = ⟨(39 :: Lex.quote s.data.toList ++ [39]).toArray⟩ := by
        rw [HR.out]
        apply ByteArray.ext
        rw [ByteArray.data_append, ByteArray.data_append]
        apply Array.ext'
        simp
      have HFin := Lib.hid hfin
      have hR1 : (⟨#[39]⟩ ++ R : ByteArray).size = R.size + 1 := by rw [ByteArray.size_append]; show 1 + R.size = _; omega
      have hR2 : (⟨#[39]⟩ : ByteArray).size = 1 := rfl
      clear hl hc hck hk hi hm hml hfin
      go_enter Tryz.func46, Tryz.ntmps46
      go_wp2_with (first
        | (go_at_call 104; (with_reducible refine (HC _).out.mono ?_); rintro e w1 ⟨rfl, h1⟩
           have b0 : w1.cell? ⟨w.heap.size, 0, none⟩ = some (.int .i64 3) := by rw [h1.cell (p := ⟨w.heap.size, 0, none⟩) (by simp)]; simp
           have b1 : w1.cell? ⟨w.heap.size, 2, none⟩ = some (.string s) := by rw [h1.cell (p := ⟨w.heap.size, 2, none⟩) (by simp)]; simp
           have H1 := Lib.hid h1
           clear h1)
        | (go_at_call 105; (with_reducible refine (HRA w1 (box_below H1.out (Below.refl _ _))).out.mono ?_); rintro e w2 ⟨rfl, h2⟩; have H2 := Lib.hid h2; clear h2))
      go_ret
      exact ⟨show Ending.returned (.string (⟨#[39]⟩ ++ R ++ ⟨#[39]⟩ : ByteArray)) = _ by rw [HFin.out]; rfl, box_below H1.out H2.out⟩
    · have h0 : i = 0 := by
        by_cases h0 : i = 0
        · exact h0
        · simp [checkV, h0] at hc
      subst h0
      have hl : literalOf 4 0 s = 88 :: 39 :: Lex.hexOf s.data.toList ++ [39] := by simp [literalOf, hc]
      rw [hl]
      exact literal_blob s w (hk (.inr rfl))
  · have hl : literalOf k i s = [] := by simp [literalOf, hc]
    rw [hl]
    have hc' : (checkV k i s != 0) = true := by simpa using hc
    generalize checkV k i s = c at hc hc' HC
    clear hl hk hi
    go_enter Tryz.func46, Tryz.ntmps46
    go_wp2_with (go_at_call 104; (with_reducible refine (HC _).out.mono ?_); rintro e w1 ⟨rfl, h1⟩; have H1 := Lib.hid h1; clear h1)
    go_ret
    exact ⟨rfl, box_below H1.out (Below.refl _ _)⟩
end Go.Proofs.YtgidnbkbmjjihaaGreatDoor
