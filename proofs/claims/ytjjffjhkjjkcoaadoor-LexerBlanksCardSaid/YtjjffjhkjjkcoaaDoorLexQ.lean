/- The law on blanks and remarks, walked. -/
import Derived.Test.YtjjffjhkjjkcoaaDoorLexU
import Derived.Deep.QuietTactic
import Derived.Deep.CutBlock
import Derived.BigQuiet
namespace Go.Proofs.YtjjffjhkjjkcoaaDoor
open Go.RowKit

theorem lex_drewN {B : Nat} {a w : World} (h : Below B a w) (n : Nat) : Below B a (w.drewN n) := ⟨h.os, h.tape, h.output, h.size, h.block⟩

def IsBlankRow (l : List UInt8) : Prop := ∀ c ∈ l, Lex.isBlank c = true

theorem index_blank (x : Int) : ∃ c : UInt8, Lex.isBlank c = true ∧ ∀ W : World, (Instr.index 24 (.agg #[.string ⟨#[32]⟩, .string ⟨#[9]⟩, .string ⟨#[10]⟩, .string ⟨#[13]⟩]) (.int .i64 (wrap64 ((IntKind.u64.wrap x).tmod 4)))).run Tryd.prog W = .ok (.string ⟨#[c]⟩) W := by
  have h0 : 0 ≤ IntKind.u64.wrap x := by
    unfold IntKind.wrap
    simp only [IntKind.signed, Bool.false_and, Bool.false_eq_true, if_false]
    exact Int.emod_nonneg _ (by decide)
  have h1 : (IntKind.u64.wrap x).tmod 4 = IntKind.u64.wrap x % 4 := Int.tmod_eq_emod_of_nonneg h0
  rw [h1]
  have hq : 0 ≤ IntKind.u64.wrap x % 4 ∧ IntKind.u64.wrap x % 4 < 4 := by omega
  generalize IntKind.u64.wrap x % 4 = q at hq ⊢
  have e : wrap64 q = q := by unfold wrap64; omega
  rw [e]
  have hq4 : q = 0 ∨ q = 1 ∨ q = 2 ∨ q = 3 := by omega
  rcases hq4 with rfl | rfl | rfl | rfl
  · exact ⟨32, by decide, fun _ => by kernel_rfl⟩
  · exact ⟨9, by decide, fun _ => by kernel_rfl⟩
  · exact ⟨10, by decide, fun _ => by kernel_rfl⟩
  · exact ⟨13, by decide, fun _ => by kernel_rfl⟩

theorem append_data (a b : ByteArray) : (a ++ b).data.toList = a.data.toList ++ b.data.toList := by
  rw [ByteArray.data_append]; simp

theorem extract_one (s : ByteArray) (k : Nat) (h : k < s.size) : (s.extract k (k + 1)).data.toList = [s[k]] := by
  rw [ByteArray.data_extract, Array.toList_extract, List.extract_eq_take_drop, drop_get s k h]
  simp

theorem blank_end (S T : ByteArray) (R : List UInt8) (k : Nat) (hS : S.size ≤ 50) (HS : IsBlankRow S.data.toList) (hk : k ≤ 100) (hT : T.size ≤ 52 + k) (HT : 10 ∉ R ∧ R.length ≤ k ∧ T.data.toList = S.data.toList ++ (45 :: 45 :: R)) {w : World} :
    ∃ (S' : ByteArray) (B R : List UInt8), Value.string T = .string S' ∧ S'.size ≤ 152 ∧ Hid (IsBlankRow B ∧ B.length ≤ 50 ∧ 10 ∉ R ∧ R.length ≤ 100 ∧ S'.data.toList = B ++ (45 :: 45 :: R)) ∧ w = w :=
  ⟨T, S.data.toList, R, rfl, by omega, Lib.hid ⟨HS, by rw [toList_length]; exact hS, HT.1, Nat.le_trans HT.2.1 hk, HT.2.2⟩, rfl⟩

theorem blank_text (T text : ByteArray) (B R : List UInt8) (h : T.data.toList = B ++ (45 :: 45 :: R)) :
    (B ++ (45 :: 45 :: R ++ [10])) ++ text.data.toList ++ Lex.tail_ = (T ++ ⟨#[10]⟩ ++ text ++ ⟨#[10, 32, 45, 45, 32, 101, 110, 100]⟩ : ByteArray).data.toList := by
  rw [append_data, append_data, append_data, h]
  simp [Lex.tail_]

set_option maxRecDepth 100000 in
set_option maxHeartbeats 8000000 in
theorem blanks_any (A : Option Addr) (len cap : Nat) (zs : List Int) (rem text : ByteArray) (w : World) (hL : Laid w) (hlen : len ≤ 9223372036854775807) (hrem : rem.size ≤ maxLen) (htext : text.size ≤ maxLen)
    (hA : 0 < len → ∃ b off, A = some ⟨b, off, none⟩ ∧ b < w.heap.size ∧ ∀ k, k < len → w.cell? ⟨b, off + k, none⟩ = some (.int .i64 (zs.getD k 0))) :
    Calls Tryd.prog 3 #[.slice A len cap, .string rem, .string text] w fun e w' => e = .returned (.bool true) ∧ Below w.heap.size w w' := by
  unfold maxLen at hrem htext
  have HW := Lib.hid (works_any w hL)
  have HL := Lib.hid hL
  have HA := Lib.hid hA
  clear hL hA
  go_enter Tryd.func3, Tryd.ntmps3
  go_upto_block 0 with (go_at_call 4; (with_reducible refine HW.out.mono ?_); rintro e w1 ⟨rfl, hb1⟩; have HB1 := Lib.hid hb1; clear hb1)
  go_cut [7] (fun v wc => ∃ S : ByteArray, v = .string S ∧ S.size ≤ 50 ∧ Hid (IsBlankRow S.data.toList) ∧ w1 = wc)
  case first =>
    go_wp2
    go_loop [7, 8] (fun v i => ∃ (k : Nat) (S : ByteArray), i = .int .i64 k ∧ v = .string S ∧ k ≤ len ∧ k ≤ 50 ∧ Hid (S.size = k) ∧ Hid (IsBlankRow S.data.toList)) (fun _ i => 50 - (intOf i).toNat)
    case atStart => exact ⟨0, ⟨#[]⟩, rfl, rfl, Nat.zero_le _, by omega, Lib.hid rfl, Lib.hid (fun c hc => by cases hc)⟩
    case round =>
      obtain ⟨k, S, rfl, rfl, hk, hk2, HSz, HS⟩ := hrel
      by_cases hlt : k < len
      · by_cases hlt2 : (k : Int) < 50
        · obtain ⟨b, off, rfl, hb, hc⟩ := HA.out (by omega)
          have hx := hc k hlt
          have hx2 : w1.cell? ⟨b, off + k, none⟩ = some (.int .i64 (zs.getD k 0)) := (HB1.out.cell (p := ⟨b, off + k, none⟩) hb).trans hx
          generalize zs.getD k 0 = x at hx2
          obtain ⟨c, hc1, hc2⟩ := index_blank x
          have HC1 := Lib.hid hc1
          clear hx hc hc1
          have hS50 : S.size ≤ 50 := by rw [HSz.out]; exact hk2
          go_wp2
          go_roundw
          case rel =>
            refine ⟨k + 1, S ++ ⟨#[c]⟩, by go_num, rfl, by omega, by omega, Lib.hid (by rw [ByteArray.size_append, HSz.out]; rfl), ?_⟩
            refine Lib.hid ?_
            intro d hd
            rw [append_data] at hd
            rcases List.mem_append.1 hd with hd | hd
            · exact HS.out d hd
            · simp at hd; subst hd; exact HC1.out
          case measure => simp [intOf]; omega
        · go_wp2
          go_meet
          case rel => exact ⟨S, rfl, by rw [HSz.out]; exact hk2, HS, rfl⟩
      · go_wp2
        go_meet
        case rel => exact ⟨S, rfl, by rw [HSz.out]; exact hk2, HS, rfl⟩
  case rest =>
    obtain ⟨S, rfl, hS1, HS, rfl⟩ := hcut
    go_upto_block 2 with (fail)
    go_cut [7] (fun v wc => ∃ (S : ByteArray) (B R : List UInt8), v = .string S ∧ S.size ≤ 152 ∧ Hid (IsBlankRow B ∧ B.length ≤ 50 ∧ 10 ∉ R ∧ R.length ≤ 100 ∧ S.data.toList = B ++ (45 :: 45 :: R)) ∧ w1 = wc)
    case first =>
      go_wp2
      go_loop [7, 9] (fun v i => ∃ (k : Nat) (T : ByteArray) (R : List UInt8), i = .int .i64 k ∧ v = .string T ∧ k ≤ rem.size ∧ k ≤ 100 ∧ T.size ≤ 52 + k ∧ Hid (10 ∉ R ∧ R.length ≤ k ∧ T.data.toList = S.data.toList ++ (45 :: 45 :: R))) (fun _ i => 100 - (intOf i).toNat)
      case atStart => exact ⟨0, _, [], rfl, rfl, Nat.zero_le _, by omega, by rw [ByteArray.size_append]; show S.size + 2 ≤ _; omega, by simp, by simp, by rw [append_data]⟩
      case round =>
        obtain ⟨k, T, R, rfl, rfl, hk, hk2, hT, HT⟩ := hrel
        by_cases hlt : k < rem.size
        · by_cases hlt2 : (k : Int) < 100
          · rcases hq : ((rem[k].toNat : Int) != 10) with _ | _
            · go_wp2
              go_roundw
              case rel => exact ⟨k + 1, T, R, by go_num, rfl, by omega, by omega, by omega, Lib.hid ⟨HT.out.1, Nat.le_succ_of_le HT.out.2.1, HT.out.2.2⟩⟩
              case measure => simp [intOf]; omega
            · have hne : rem[k] ≠ 10 := fun e => by rw [e] at hq; exact absurd hq (by decide)
              have HNE := Lib.hid hne
              clear hne
              go_wp2
              go_roundw
              case rel =>
                refine ⟨k + 1, T ++ rem.extract k (k + 1), R ++ [rem[k]], by go_num, rfl, by omega, by omega, by rw [ByteArray.size_append, ByteArray.size_extract]; omega, Lib.hid ⟨?_, ?_, ?_⟩⟩
                · intro h
                  rcases List.mem_append.1 h with h | h
                  · exact HT.out.1 h
                  · simp at h; exact HNE.out h.symm
                · rw [List.length_append]; exact Nat.succ_le_succ HT.out.2.1
                · rw [append_data, HT.out.2.2, extract_one rem k hlt]; simp
              case measure => simp [intOf]; omega
          · go_wp2
            go_meet
            case rel => exact blank_end S T R k hS1 HS.out hk2 hT HT.out
        · go_wp2
          go_meet
          case rel => exact blank_end S T R k hS1 HS.out hk2 hT HT.out
    case rest =>
      obtain ⟨T, B, R, rfl, hT1, HT, rfl⟩ := hcut
      have HLw := Lib.hid (HL.out.of_below HB1.out)
      have hT2 : (T ++ ⟨#[10]⟩ : ByteArray).size = T.size + 1 := by rw [ByteArray.size_append]; rfl
      by_cases htl : text.size ≤ 16184
      · obtain ⟨hb1, hb2⟩ := Lex.blanks B R text.data.toList HT.out.1 HT.out.2.2.1 HT.out.2.1 HT.out.2.2.2.1 (by rw [toList_length]; exact htl)
        rw [blank_text T text B R HT.out.2.2.2.2] at hb2
        have hlen : (B ++ (45 :: 45 :: R ++ [10])).length = T.size + 1 := by
          rw [← toList_length T, HT.out.2.2.2.2]; simp; omega
        rw [hlen] at hb2
        rcases hsc : Lex.scanAll 0 text.data.toList with n | l
        · rw [hsc] at hb1 hb2
          have C1 := Lib.hid (tokens_bad text n 20 w1 HLw.out hb1)
          have C2 : ∀ W, Below w1.heap.size w1 W → Hid (Calls Tryd.prog 5 #[.string (T ++ ⟨#[10]⟩ ++ text ++ ⟨#[10, 32, 45, 45, 32, 101, 110, 100]⟩)] W _) := fun W h => Lib.hid (tokens_bad _ (n + (T.size + 1)) 20 W (HLw.out.of_below h) hb2)
          have HT2 := Lib.hid hT2
          have hnb : n ≤ 16184 := Nat.le_trans (Lex.scanAll_err' hsc) (by rw [toList_length]; exact htl)
          clear hb1 hb2 hsc hlen hT2
          go_wp2_with (first
            | (go_at_call 5; (with_reducible refine C1.out.mono ?_); rintro e w2 ⟨p, rfl, hp1, hp2, hb2⟩; have HP2 := Lib.hid hp2; have HB2 := Lib.hid hb2; clear hp2 hb2)
            | (go_at_call 5; (with_reducible refine (C2 w2 HB2.out).out.mono ?_); rintro e w3 ⟨q, rfl, hq1, hq2, hb3⟩
               have HB3 : Hid (Below w1.heap.size w1 w3) := Lib.hid (HB2.out.trans (hb3.mono HB2.out.size))
               have HS1 := Lib.hid (seen_fault p n 20 w3 (HLw.out.of_below HB3.out) ((hb3.block p hp1).trans HP2.out))
               have HQ2 := Lib.hid hq2
               clear hb3 hq2)
            | (go_at_call 6; (with_reducible refine HS1.out.mono ?_); rintro e w4 ⟨rfl, hb4⟩
               have HB4 : Hid (Below w1.heap.size w1 w4) := Lib.hid (HB3.out.trans (hb4.mono HB3.out.size))
               have HS2 := Lib.hid (seen_fault q (n + (T.size + 1) : Nat) 20 w4 (HLw.out.of_below HB4.out) ((hb4.block q hq1).trans HQ2.out))
               clear hb4)
            | (go_at_call 6; (with_reducible refine HS2.out.mono ?_); rintro e w5 ⟨rfl, hb5⟩; have HB5 : Hid (Below w1.heap.size w1 w5) := Lib.hid (HB4.out.trans (hb5.mono HB4.out.size)); clear hb5))
          go_ret
          refine ⟨rfl, ?_⟩
          have hz1 := HB1.out.size
          have hz5 := HB5.out.size
          refine Below.alloc (Below.alloc (HB1.out.trans (HB5.out.mono hz1)) ?_ _) ?_ _
          · omega
          · simp; omega
        · rw [hsc] at hb1 hb2
          have hbd := Lex.scanAll_bound' hsc
          have C1 := Lib.hid (tokens_good text l w1 HLw.out hb1)
          have C2 : ∀ W, Below w1.heap.size w1 W → Hid (Calls Tryd.prog 5 #[.string (T ++ ⟨#[10]⟩ ++ text ++ ⟨#[10, 32, 45, 45, 32, 101, 110, 100]⟩)] W _) := fun W h => Lib.hid (tokens_good _ (l.map fun t => { t with at_ := t.at_ + (T.size + 1 : Nat) }) W (HLw.out.of_below h) hb2)
          have HT2 := Lib.hid hT2
          have hll : l.length ≤ 16184 := Nat.le_trans hbd.1 (by rw [toList_length]; exact htl)
          have HBd := Lib.hid hbd.2
          have HLm : Hid ((l.map fun t => { t with at_ := t.at_ + (T.size + 1 : Nat) } : List Lex.Tok).length = l.length) := Lib.hid (by simp)
          generalize hm : (l.map fun t => { t with at_ := t.at_ + (T.size + 1 : Nat) } : List Lex.Tok) = m at C2 HLm
          have Hm := Lib.hid hm
          clear hb1 hb2 hsc hlen hT2 hbd hm
          go_upto_block 24 with (first
            | (go_at_call 5; (with_reducible refine C1.out.mono ?_); rintro e w2 ⟨A1, c1, rfl, hr1, hb2⟩; have HR1 := Lib.hid hr1; have HB2 := Lib.hid hb2; clear hr1 hb2)
            | (go_at_call 5; (with_reducible refine (C2 w2 HB2.out).out.mono ?_); rintro e w3 ⟨A2, c2, rfl, hr2, hb3⟩
               rw [HLm.out]
               have HB3 : Hid (Below w1.heap.size w1 w3) := Lib.hid (HB2.out.trans (hb3.mono HB2.out.size))
               have HR13 := Lib.hid (HR1.out.of_below hb3)
               have HR23 := Lib.hid hr2
               have HS1 := Lib.hid (seen_nil w3)
               clear hb3 hr2)
            | (go_at_call 6; (with_reducible refine HS1.out.mono ?_); rintro e w4 ⟨rfl, hb4⟩
               have HB4 : Hid (Below w1.heap.size w1 w4) := Lib.hid (HB3.out.trans (hb4.mono HB3.out.size))
               have HR14 := Lib.hid (HR13.out.of_below hb4)
               have HR24 := Lib.hid (HR23.out.of_below hb4)
               have HS2 := Lib.hid (seen_nil w4)
               clear hb4)
            | (go_at_call 6; (with_reducible refine HS2.out.mono ?_); rintro e w5 ⟨rfl, hb5⟩
               have HB5 : Hid (Below w1.heap.size w1 w5) := Lib.hid (HB4.out.trans (hb5.mono HB4.out.size))
               have HR15 := Lib.hid (HR14.out.of_below hb5)
               have HR25 := Lib.hid (HR24.out.of_below hb5)
               clear hb5))
          go_loopw [16] (fun i wr => ∃ k : Nat, i = .int .i64 k ∧ k ≤ l.length ∧ Below w5.heap.size w5 wr) (fun i _ => l.length - (intOf i).toNat)
          case atStart =>
            refine ⟨0, rfl, Nat.zero_le _, ?_⟩
            refine Below.alloc (Below.alloc (Below.refl _ _) (Nat.le_refl _) _) ?_ _
            simp
          case round =>
            obtain ⟨k, rfl, hk, hbw⟩ := hrel
            have HBW := Lib.hid hbw
            clear hbw
            by_cases hlt : k < l.length
            · obtain ⟨g1, rfl, hg1, x0, x1, x2, x3⟩ := (HR15.out.of_below HBW.out) k hlt
              obtain ⟨g2, rfl, hg2, y0, y1, y2, y3⟩ := (HR25.out.of_below HBW.out) k (by rw [HLm.out]; exact hlt)
              have ek : m[k]'(by rw [HLm.out]; exact hlt) = { l[k] with at_ := l[k].at_ + (T.size + 1 : Nat) } := by
                have := Hm.out
                subst this
                simp
              rw [ek] at y0 y1 y2 y3
              have hbk := HBd.out l[k] (List.getElem_mem _)
              rw [toList_length] at hbk
              generalize l[k] = t at x0 x1 x2 x3 y0 y1 y2 y3 hbk
              obtain ⟨kind, tx, at1, it⟩ := t
              clear ek
              simp only [] at x0 x1 x2 x3 y0 y1 y2 y3 hbk
              obtain ⟨hb0, hb9⟩ := hbk
              go_wp2
              go_quiet (fail)
              go_wp2
              go_roundw
              case rel =>
                refine ⟨k + 1, by go_num, by omega, ?_⟩
                have hz := HBW.out.size
                exact lex_drewN (HBW.out.alloc hz _) nq
              case measure => simp [intOf]; omega
            · go_wp2
              go_ret
              refine ⟨rfl, ?_⟩
              have hz1 := HB1.out.size
              have hz5 := HB5.out.size
              exact HB1.out.trans ((HB5.out.trans (HBW.out.mono hz5)).mono hz1)
      · go_wp2
        go_ret
        exact ⟨rfl, HB1.out⟩
end Go.Proofs.YtjjffjhkjjkcoaaDoor
