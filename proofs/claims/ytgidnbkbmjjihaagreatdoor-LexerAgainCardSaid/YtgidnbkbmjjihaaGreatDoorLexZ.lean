/- The law that words written are the same words, walked. -/
import Derived.Test.YtgidnbkbmjjihaaGreatDoorLexY
import Derived.Lib.ItoaLen
namespace Go.Proofs.YtgidnbkbmjjihaaGreatDoor
open Go.RowKit

theorem lex_drewN' {B : Nat} {a w : World} (h : Below B a w) (n : Nat) : Below B a (w.drewN n) := ⟨h.os, h.tape, h.output, h.size, h.block⟩

theorem itoa_len (n : Int) (h0 : 0 ≤ n) (h1 : n < 9223372036854775808) : (Lib.itoa n).length ≤ 20 := by
  unfold Lib.itoa
  rw [if_neg (by omega), Lib.decDigits_length]
  exact Lib.nDigits_le20 _ (by omega)

theorem append_data (a b : ByteArray) : (a ++ b).data.toList = a.data.toList ++ b.data.toList := by
  rw [ByteArray.data_append]; simp

theorem printTok_len {t : Lex.Tok} (h : Lex.Fine 16384 t) : (Lex.printTok t).length ≤ 33000 := by
  obtain ⟨h1, h2, h3, hk⟩ := h
  have hq := Lex.quote_len t.text
  have hx := Lex.hexOf_len t.text
  have hi := itoa_len t.int h2 h3
  unfold Lex.printTok
  split
  · omega
  · split
    · omega
    · split
      · simp; omega
      · split
        · simp; omega
        · simp

theorem written_step (l : List Lex.Tok) (k : Nat) (h : k < l.length) : Lex.written (l.take (k + 1)) = Lex.written (l.take k) ++ Lex.printTok l[k] ++ [32] := by
  have e : l.take (k + 1) = l.take k ++ [l[k]] := by rw [List.take_add_one, List.getElem?_eq_getElem h]; rfl
  rw [e]
  unfold Lex.written
  rw [List.flatMap_append]
  simp

set_option maxRecDepth 100000 in
set_option maxHeartbeats 8000000 in
theorem again_any (text : ByteArray) (w : World) (hE : LaidE w) (hL : LaidT w) :
    Calls Tryz.prog 3 #[.string text] w fun e w' => e = .returned (.bool true) ∧ Below w.heap.size w w' := by
  have HW := Lib.hid (works_any w hE)
  have HL := Lib.hid hL
  clear hL hE
  rcases ht : Lex.tokens text.data.toList with ⟨n, er⟩ | l
  · have HT : ∀ W, Below w.heap.size w W → Hid (Calls Tryz.prog 15 #[.string text] W _) := fun W h => Lib.hid (tokens_bad text n er W (HL.out.of_below h).1 ht)
    clear ht
    go_enter Tryz.func3, Tryz.ntmps3
    go_wp2_with (first
      | (go_at_call 14; (with_reducible refine HW.out.mono ?_); rintro e w1 ⟨rfl, hb1⟩; have HB1 := Lib.hid hb1; clear hb1)
      | (go_at_call 15; (with_reducible refine (HT w1 HB1.out).out.mono ?_); rintro e w2 ⟨p, rfl, _, _, hb2⟩; have HB2 := Lib.hid hb2; clear hb2))
    go_ret
    exact ⟨rfl, HB1.out.trans (HB2.out.mono HB1.out.size)⟩
  · have HT : ∀ W, Below w.heap.size w W → Hid (Calls Tryz.prog 15 #[.string text] W _) := fun W h => Lib.hid (tokens_good text l W (HL.out.of_below h).1 ht)
    have hts : text.size ≤ 16384 := by
      rcases Nat.lt_or_ge 16384 text.size with h | h
      · rw [Lex.tokens, if_pos (by rw [toList_length]; exact h)] at ht; cases ht
      · exact h
    have hsc : Lex.scanAll 0 text.data.toList = .ok l := by
      rw [Lex.tokens_short (by rw [toList_length]; exact hts)] at ht
      cases hs : Lex.scanAll 0 text.data.toList with
      | error e => rw [hs] at ht; cases ht
      | ok l' => rw [hs] at ht; cases ht; rfl
    have HGood : Hid (∀ t ∈ l, Lex.Good t ∧ Lex.Fine 16384 t) := Lib.hid (fun t h => by
      have := Lex.good_of_scan' hsc t h
      exact ⟨this.1, this.2.mono (by rw [toList_length]; exact hts)⟩)
    have hll : l.length ≤ 16384 := Nat.le_trans (Lex.scanAll_bound' hsc).1 (by rw [toList_length]; exact hts)
    clear ht hsc
    go_enter Tryz.func3, Tryz.ntmps3
    go_upto_block 8 with (first
      | (go_at_call 14; (with_reducible refine HW.out.mono ?_); rintro e w1 ⟨rfl, hb1⟩; have HB1 := Lib.hid hb1; clear hb1)
      | (go_at_call 15; (with_reducible refine (HT w1 HB1.out).out.mono ?_); rintro e w2 ⟨A1, c1, rfl, hr1, hb2⟩; have HR1 := Lib.hid hr1; have HB2 : Hid (Below w.heap.size w w2) := Lib.hid (HB1.out.trans (hb2.mono HB1.out.size)); clear hb2 hr1))
    go_loopw [5, 6] (fun v i wr => ∃ (k : Nat) (S : ByteArray), i = .int .i64 k ∧ v = .string S ∧ k ≤ l.length ∧ S.size ≤ k * 33001 ∧ Hid (S.data.toList = Lex.written (l.take k)) ∧ Below w2.heap.size w2 wr) (fun _ i _ => l.length - (intOf i).toNat)
    case atStart => exact ⟨0, ⟨#[]⟩, rfl, rfl, Nat.zero_le _, Nat.le_refl _, Lib.hid rfl, Below.refl _ _⟩
    case round =>
      obtain ⟨k, S, rfl, rfl, hk, hS, HS, hbw⟩ := hrel
      have HBW := Lib.hid hbw
      clear hbw
      by_cases hlt : k < l.length
      · obtain ⟨g1, rfl, hg1, x0, x1, x2, x3⟩ := (HR1.out.of_below HBW.out) k hlt
        have hgf := HGood.out l[k] (List.getElem_mem _)
        have hst := Lib.hid (written_step l k hlt)
        have hpl := printTok_len hgf.2
        have hHL : LaidT wr := HL.out.of_below (HB2.out.trans (HBW.out.mono HB2.out.size))
        generalize l[k] = t at x0 x1 x2 x3 hgf hst hpl
        have hP := print_any t.kind t.at_ t.int ⟨t.text.toArray⟩ wr hgf.2 hHL
        have e : (⟨t.kind, (⟨t.text.toArray⟩ : ByteArray).data.toList, t.at_, t.int⟩ : Lex.Tok) = t := rfl
        rw [e] at hP
        obtain ⟨R, HR⟩ : ∃ R : ByteArray, Hid (R = ⟨(Lex.printTok t).toArray⟩) := ⟨_, rfl⟩
        rw [← HR.out] at hP
        have hRs : R.size ≤ 33000 := by rw [HR.out]; show (Lex.printTok t).toArray.size ≤ _; simpa using hpl
        have HP := Lib.hid hP
        have HE := Lib.hid e
        clear hP hgf e hpl hHL
        go_wp2_with (go_at_call 16; (with_reducible refine HP.out.mono ?_); rintro e w3 ⟨rfl, hb3⟩; have HB3 := Lib.hid hb3; clear hb3)
        go_roundw
        case rel =>
          refine ⟨k + 1, S ++ R ++ ⟨#[32]⟩, by go_num, rfl, by omega, ?_, Lib.hid ?_, HBW.out.trans (HB3.out.mono HBW.out.size)⟩
          · rw [ByteArray.size_append, ByteArray.size_append]; show S.size + R.size + 1 ≤ _; omega
          · rw [append_data, append_data, HS.out, hst.out, HR.out]
        case measure => simp [intOf]; omega
      · obtain rfl : k = l.length := by omega
        have hS2 : S.data.toList = Lex.written l := by rw [HS.out, List.take_of_length_le (Nat.le_refl _)]
        have HHL : Hid (LaidT wr) := Lib.hid (HL.out.of_below (HB2.out.trans (HBW.out.mono HB2.out.size)))
        by_cases hsl : S.size ≤ 16384
        · have C2 := Lib.hid (tokens_good S (Lex.placed 0 l) wr HHL.out.1 (by
            rw [hS2]
            exact Lex.again (fun t h => (HGood.out t h).1) (by rw [← hS2, toList_length]; exact hsl)))
          have HPl : Hid ((Lex.placed 0 l).length = l.length) := Lib.hid (Lex.placed_length l 0)
          have HPg : Hid (∀ k (h : k < l.length), ∃ p : Int, (Lex.placed 0 l)[k]'(by rw [Lex.placed_length]; exact h) = { l[k] with at_ := p }) := Lib.hid (Lex.placed_get l 0)
          clear hS2
          go_upto_block 17 with (go_at_call 15; (with_reducible refine C2.out.mono ?_); rintro e w4 ⟨A2, c2, rfl, hr2, hb4⟩
                                 rw [HPl.out]
                                 have HR2 := Lib.hid hr2
                                 have HB4 : Hid (Below w2.heap.size w2 w4) := Lib.hid (HBW.out.trans (hb4.mono HBW.out.size))
                                 clear hb4 hr2)
          go_loopw [9] (fun i wr => ∃ k : Nat, i = .int .i64 k ∧ k ≤ l.length ∧ Below w4.heap.size w4 wr) (fun i _ => l.length - (intOf i).toNat)
          case atStart => exact ⟨0, rfl, Nat.zero_le _, Below.refl _ _⟩
          case round =>
            obtain ⟨k, rfl, hk, hbw⟩ := hrel
            have HBW2 := Lib.hid hbw
            have HBW3 : Hid (Below w2.heap.size w2 wr) := Lib.hid (HB4.out.trans (hbw.mono HB4.out.size))
            clear hbw
            by_cases hlt : k < l.length
            · obtain ⟨g1, rfl, hg1, x0, x1, x2, x3⟩ := (HR1.out.of_below HBW3.out) k hlt
              obtain ⟨g2, rfl, hg2, y0, y1, y2, y3⟩ := (HR2.out.of_below HBW2.out) k (by rw [HPl.out]; exact hlt)
              obtain ⟨p, hp⟩ := HPg.out k hlt
              rw [hp] at y0 y1 y2 y3
              generalize l[k] = t at x0 x1 x2 x3 y0 y1 y2 y3 hp
              obtain ⟨kind, tx, at1, it⟩ := t
              clear hp
              simp only [] at x0 x1 x2 x3 y0 y1 y2 y3
              go_wp2
              go_quiet (fail)
              go_wp2
              go_roundw
              case rel =>
                refine ⟨k + 1, by go_num, by omega, ?_⟩
                have hz := HBW2.out.size
                exact lex_drewN' (HBW2.out.alloc hz _) nq
              case measure => simp [intOf]; omega
            · go_wp2
              go_ret
              exact ⟨rfl, HB2.out.trans (HBW3.out.mono HB2.out.size)⟩
        · have hsl' : 16384 < (S.size : Int) := by omega
          clear hS2
          go_wp2
          go_ret
          exact ⟨rfl, HB2.out.trans (HBW.out.mono HB2.out.size)⟩
end Go.Proofs.YtgidnbkbmjjihaaGreatDoor
