/- A text written into a builder, a number's numeral, quotes doubled: walked. -/
import Derived.Test.YtgidnbkbmjjihaaGreatDoorLexV
import Derived.Test.YtgidnbkbmjjihaaGreatDoorShelfT
namespace Go.Proofs.YtgidnbkbmjjihaaGreatDoor
open Go.RowKit

/-- The walks' hypothesis, and the table of powers. -/
def LaidT (w : World) : Prop := Laid w ∧ Lib.TabIs Tryz.prog w "internal/strconv.uint64pow10" .u64 Lib.pow10Tab

theorem gPow : Tryz.prog.globalNamed "internal/strconv.uint64pow10" = some 2 := by kernel_rfl
theorem LaidT.of_below {w w' : World} (h : LaidT w) (hb : Below w.heap.size w w') : LaidT w' := ⟨h.1.of_below hb, Joins.tab_stays gPow h.2 hb (Nat.le_refl _)⟩

theorem below_grow {B : Nat} {a w : World} (h : Below B a w) (hB : B ≤ w.heap.size) (k : Nat) (os : Array Obj) : Below B a (Go.Sort.grow (w.drewN k) os) := by
  refine h.trans ⟨rfl, rfl, rfl, ?_, fun i hi => ?_⟩
  · show w.heap.size ≤ (w.heap ++ os).size
    simp
  · show (w.heap ++ os)[i]? = w.heap[i]?
    rw [Array.getElem?_append_left (by omega)]

theorem formatInt_any (n : Int) (h0 : -9223372036854775808 ≤ n) (h1 : n ≤ 9223372036854775807) (w : World) (hL : LaidT w) :
    Calls Tryz.prog 45 #[.int .i64 n, .int .i64 10] w fun e w' => e = .returned (.string ⟨(Lib.itoa n).toArray⟩) ∧ Below w.heap.size w w' := by
  have H := Lib.hid (Tryz.internal_strconv_FormatInt_10 n h0 h1 w hL.2)
  clear hL
  go_enter Tryz.func45, Tryz.ntmps45
  go_wp2_with (go_at_call 103; (with_reducible refine H.out.mono ?_); rintro e w1 ⟨rfl, k, os, rfl⟩)
  go_ret
  exact ⟨rfl, below_grow (Below.refl _ _) (Nat.le_refl _) k os⟩

set_option maxRecDepth 100000 in
/-- A text is written into a builder of the call's own. -/
theorem writeString_any (B b : Nat) (bs : List Value) (s : ByteArray) (w : World) (h : Lib.IsBuilder 177 5 B b bs w) (hlen : bs.length + s.size ≤ 140737488355328) (hBw : B ≤ w.heap.size) :
    Calls Tryz.prog 106 #[.pointer (some ⟨b, 0, none⟩), .string s] w fun e w' => e = .returned (.tuple #[.int .i64 s.size, .nilIface]) ∧ Lib.BuilderAt 177 5 B b (.pointer (some ⟨b, 0, none⟩)) (bs ++ Lib.strCells s) w' ∧ Below B w w' := by
  obtain ⟨i0, hi, hz0, hz1, hz2⟩ := info_parts infoByte
  go_enter Tryz.func106, Tryz.ntmps106
  go_wp2_with (go_at_call 195; refine (copyCheck_any B b bs _ h).mono ?_)
  rintro e w1 ⟨rfl, h1, hb1⟩
  obtain ⟨hB, v, hbk, hown, hne⟩ := h1
  have c0 : w1.cell? ⟨b, 0, none⟩ = some (.pointer (some ⟨b, 0, none⟩)) := by rw [Lib.cell_of_heap hbk]; rfl
  have c1 : w1.cell? ⟨b, 1, none⟩ = some v := by rw [Lib.cell_of_heap hbk]; rfl
  have hs1 := hb1.size
  go_wp2_with (at_builtin; refine Lib.wpList_append_own_string _ rfl _ _ 131 9 rfl B 5 i0 Tryz.underlying131 Tryz.underlying9 hi hz0 hz1 hz2 _ _ _ rfl hown s rfl ?c3 ?c4 ?c5 ?_)
  case c3 => unfold maxLen; omega
  case c4 => omega
  case c5 => omega
  intro v' w2 hown' hgrow _
  have hlt : b < w1.heap.size := by
    rcases Nat.lt_or_ge b w1.heap.size with h' | h'
    · exact h'
    · simp [Array.getElem?_eq_none h'] at hbk
  have hb2 : w2.heap[b]? = some (.cells #[.pointer (some ⟨b, 0, none⟩), v] 177 (0, 0)) := by
    rw [hgrow.block b hlt (fun e => hne e.symm)]
    exact hbk
  have d0 : w2.cell? ⟨b, 0, none⟩ = some (.pointer (some ⟨b, 0, none⟩)) := by rw [Lib.cell_of_heap hb2]; rfl
  have d1 : w2.cell? ⟨b, 1, none⟩ = some v := by rw [Lib.cell_of_heap hb2]; rfl
  have f1 : w2.frozen? ⟨b, 1, none⟩ = false := Lib.frozen_of_heap hb2 1
  obtain ⟨ao, n', cap, rfl⟩ : ∃ ao n' cap, v' = .slice ao n' cap := by
    rcases hown'.2 with ⟨hv, _⟩ | ⟨g, cap, cur, hv, _⟩
    · exact ⟨_, _, _, hv⟩
    · exact ⟨_, _, _, hv⟩
  have HN := Lib.hid hne
  clear hne
  go_wp2
  go_ret2
  refine ⟨rfl, ?_, ?_⟩
  · exact Lib.BuilderAt.put (T := 177) (e := 5) hB hb2 (bs' := bs ++ Lib.strCells s) (by simpa [Lib.strCells_length] using hown') (by decide)
  · exact (hb1.grown hgrow (by omega) (fun k hk => (hown.lt k hk).1)).setCell (p := ⟨b, 1, none⟩) hB _

theorem replaceK_skip (c : UInt8) (hc : c ≠ 39) (l : List UInt8) (k : Nat) : Lib.replaceK [39] [39, 39] k (c :: l) = c :: Lib.replaceK [39] [39, 39] k l := by
  cases k with
  | zero => rfl
  | succ k =>
    simp only [Lib.replaceK]
    rw [Lib.index_one, Lib.index_one]
    have hb : (c == 39) = false := by simpa using hc
    simp only [Lib.indexByte, hb]
    by_cases hi : Lib.indexByte l 39 = -1
    · simp [hi]
    · have hge := Lib.indexByte_ge l 39
      obtain ⟨i, hi2⟩ : ∃ i : Nat, Lib.indexByte l 39 = i := ⟨(Lib.indexByte l 39).toNat, by omega⟩
      rw [hi2]
      have e1 : ((i : Int) == -1) = false := by simp
      have e2 : ((i : Int) + 1 == -1) = false := by simp; omega
      have e3 : ((i : Int) + 1).toNat = i + 1 := by omega
      simp [e1, e2, e3]

theorem replace_quote (l : List UInt8) : Lib.replaceK [39] [39, 39] (Lib.count l [39]) l = Lex.quote l := by
  induction l with
  | nil =>
    show Lib.replaceK _ _ (Lib.count [] [39]) [] = []
    rw [Lib.count_one]
    rfl
  | cons c l ih =>
    by_cases hc : c = 39
    · subst hc
      rw [Lib.count_cons_eq, Nat.add_comm, Lib.replaceK]
      rw [Lib.index_one]
      have e : Lex.quote (39 :: l) = 39 :: 39 :: Lex.quote l := by simp [Lex.quote]
      rw [e, ← ih]
      rfl
    · rw [Lib.count_cons_ne _ _ _ hc, replaceK_skip c hc, ih]
      simp [Lex.quote, hc]

theorem replaceAll_quote (l : List UInt8) : Lib.replaceAll l [39] [39, 39] = Lex.quote l := by
  unfold Lib.replaceAll Lib.replace
  rw [if_neg (by decide), Lib.replaceNum, if_pos (.inl (by decide)), replace_quote]
end Go.Proofs.YtgidnbkbmjjihaaGreatDoor
