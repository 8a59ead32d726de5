/- A quoted text at the front, walked: the loop that writes its bytes into a builder. -/
import Derived.Test.YtgidnbkbmjjihaaGreatDoorLexC
import Derived.Test.YtgidnbkbmjjihaaGreatDoorLexBlanks
namespace Go.Proofs.YtgidnbkbmjjihaaGreatDoor
open Go.RowKit

theorem byteCells_snoc (l : List UInt8) (c : UInt8) : Lib.byteCells (l ++ [c]) = Lib.byteCells l ++ [.int .u8 c.toNat] := by simp [Lib.byteCells]
theorem byteCells_length (l : List UInt8) : (Lib.byteCells l).length = l.length := by simp [Lib.byteCells]
theorem toList_length (s : ByteArray) : s.data.toList.length = s.size := by rw [Array.length_toList]; rfl
theorem toList_get (s : ByteArray) (k : Nat) (h : k < s.size) : s.data.toList[k]'(by rw [toList_length]; exact h) = s[k] := rfl
theorem drop_get (s : ByteArray) (k : Nat) (h : k < s.size) : s.data.toList.drop k = s[k] :: s.data.toList.drop (k + 1) := by
  rw [List.drop_eq_getElem_cons (by rw [toList_length]; exact h)]; rfl

/-- What text answers, from a place on with the bytes l0 gathered. -/
def TextAt (s : ByteArray) (i : Nat) (l0 : List UInt8) : Prop :=
  Lex.textGo (s.data.toList.drop 1) = (Lex.textGo (s.data.toList.drop i)).map fun p => (l0 ++ p.1, p.2 + (i - 1))

theorem TextAt.start (s : ByteArray) : TextAt s 1 [] := by
  unfold TextAt
  cases Lex.textGo (s.data.toList.drop 1) <;> simp

theorem TextAt.plain {s : ByteArray} {i : Nat} {l0 : List UInt8} (h : TextAt s i l0) (h1 : 1 ≤ i) (hi : i < s.size) (hc : ¬ s[i] = 39) : TextAt s (i + 1) (l0 ++ [s[i]]) := by
  unfold TextAt at *
  rw [h, drop_get s i hi]
  have e : i + 1 - 1 = i - 1 + 1 := by omega
  cases hr : s.data.toList.drop (i + 1) with
  | nil => simp [Lex.textGo, hc]
  | cons d r =>
    simp only [Lex.textGo, if_neg hc, Option.map_map]
    congr 1
    funext p
    simp
    omega

theorem TextAt.twice {s : ByteArray} {i : Nat} {l0 : List UInt8} (h : TextAt s i l0) (h1 : 1 ≤ i) (hi : i + 1 < s.size) (hc : s[i] = 39) (hd : s[i + 1] = 39) : TextAt s (i + 2) (l0 ++ [39]) := by
  unfold TextAt at *
  rw [h, drop_get s i (by omega), drop_get s (i + 1) hi]
  simp only [Lex.textGo, if_pos hc, if_pos hd, Option.map_map]
  congr 1
  funext p
  simp
  omega

theorem TextAt.last {s : ByteArray} {i : Nat} {l0 : List UInt8} (h : TextAt s i l0) (h1 : 1 ≤ i) (hi : i + 1 = s.size) (hc : s[i] = 39) : Lex.textGo (s.data.toList.drop 1) = some (l0, i) := by
  unfold TextAt at *
  rw [h, drop_get s i (by omega), List.drop_of_length_le (by rw [toList_length]; omega)]
  simp [Lex.textGo, hc]
  omega

theorem TextAt.shut {s : ByteArray} {i : Nat} {l0 : List UInt8} (h : TextAt s i l0) (h1 : 1 ≤ i) (hi : i + 1 < s.size) (hc : s[i] = 39) (hd : ¬ s[i + 1] = 39) : Lex.textGo (s.data.toList.drop 1) = some (l0, i) := by
  unfold TextAt at *
  rw [h, drop_get s i (by omega), drop_get s (i + 1) hi]
  simp only [Lex.textGo, if_pos hc, if_neg hd]
  simp
  omega

theorem TextAt.none_ {s : ByteArray} {i : Nat} {l0 : List UInt8} (h : TextAt s i l0) (hi : s.size ≤ i) : Lex.textGo (s.data.toList.drop 1) = none := by
  unfold TextAt at *
  rw [h, List.drop_of_length_le (by rw [toList_length]; omega)]
  simp [Lex.textGo]

def textAns (s : ByteArray) : List UInt8 × Nat := match Lex.textGo (s.data.toList.drop 1) with
  | some (l, m) => (l, m + 1)
  | none => ([], 0)

theorem byte_eq {c : UInt8} {n : Nat} (hn : n < 256) (h : ((c.toNat : Int) == (n : Int)) = true) : c = UInt8.ofNat n := by
  apply UInt8.toNat_inj.1
  rw [UInt8.toNat_ofNat', Nat.mod_eq_of_lt (by omega)]
  simpa [Int.natCast_inj] using h
theorem byte_ne {c : UInt8} {n : Nat} (hn : n < 256) (h : ((c.toNat : Int) == (n : Int)) = false) : ¬ c = UInt8.ofNat n := by
  intro e
  subst e
  rw [UInt8.toNat_ofNat', Nat.mod_eq_of_lt (by omega)] at h
  simp at h
theorem byte_bne {c : UInt8} {n : Nat} (hn : n < 256) (h : ((c.toNat : Int) != (n : Int)) = true) : ¬ c = UInt8.ofNat n := byte_ne hn (by simpa [bne] using h)
theorem byte_beq {c : UInt8} {n : Nat} (hn : n < 256) (h : ((c.toNat : Int) != (n : Int)) = false) : c = UInt8.ofNat n := byte_eq hn (by simpa [bne] using h)

theorem ret_text {l l' : List UInt8} {n n' : Int} (h : l = l') (h' : n = n') : Ending.returned (.tuple #[.string ⟨l.toArray⟩, .int .i64 n]) = .returned (.tuple #[.string ⟨l'.toArray⟩, .int .i64 n']) := by rw [h, h']

set_option maxHeartbeats 1000000 in
theorem text_any (s : ByteArray) (w : World) (h1 : 1 ≤ s.size) (hs : s.size ≤ 16384) :
    Calls Tryz.prog 101 #[.string s] w fun e w' => e = .returned (.tuple #[.string ⟨(textAns s).1.toArray⟩, .int .i64 (textAns s).2]) ∧ Below w.heap.size w w' := by
  go_enter Tryz.func101, Tryz.ntmps101
  go_wp2
  have hb0 := Lib.fresh_isBuilder 177 5 w
  go_loopw [5] (fun i wr => ∃ (k : Nat) (l : List UInt8), 1 ≤ k ∧ i = .int .i64 k ∧ k ≤ s.size ∧ l.length ≤ k ∧ TextAt s k l ∧ Lib.IsBuilder 177 5 w.heap.size w.heap.size (Lib.byteCells l) wr ∧ Below w.heap.size w wr) (fun i _ => s.size - (intOf i).toNat)
  case atStart => exact ⟨1, [], by omega, rfl, h1, by simp, TextAt.start s, hb0, (Below.refl _ _).alloc (Nat.le_refl _) _⟩
  case round =>
    obtain ⟨k, l, hk1, rfl, hk2, hl, ht, hb, hbl⟩ := hrel
    have HT := Lib.hid ht
    have HB := Lib.hid hb
    have HL := Lib.hid hbl
    have hsz := hbl.size
    clear ht hb hbl hb0
    by_cases hlt : k < s.size
    · have HW : ∀ (c : Int), Hid (∀ W, W = wr → Calls Tryz.prog 107 #[.pointer (some ⟨w.heap.size, 0, none⟩), .int .u8 c] W fun e w' => e = .returned .nilIface ∧ Lib.BuilderAt 177 5 w.heap.size w.heap.size (.pointer (some ⟨w.heap.size, 0, none⟩)) (Lib.byteCells l ++ [.int .u8 c]) w' ∧ Below w.heap.size wr w') :=
        fun c W e => by subst e; exact writeByte_any _ _ _ c _ HB.out (by rw [byteCells_length]; omega) hsz
      go_wp2_with (first | (go_at_call 107; refine ((HW _).out _ rfl).mono ?_; rintro e w1 ⟨rfl, h1, h2⟩; have H1 := Lib.hid h1; have H2 := Lib.hid h2; clear h1 h2) | (go_at_call 108; refine (Tryz.Builder_String_any _ _ l _ HB.out hsz).mono ?_; rintro e w1 ⟨rfl, h2⟩; have H2 := Lib.hid h2; clear h2))
      · have hc : s[k] = 39 := byte_eq (n := 39) (by decide) ‹_›
        have he : (k : Int) + 1 = s.size := ‹_›
        have ha := HT.out.last hk1 (by omega) hc
        go_ret2
        refine ⟨ret_text ?_ ?_, HL.out.trans H2.out⟩
        · unfold textAns; rw [ha]
        · unfold textAns; rw [ha]; show (_ : Int) = ((k + 1 : Nat) : Int); omega
      · have hc : s[k] = 39 := byte_eq (n := 39) (by decide) ‹_›
        have he : 0 ≤ (k : Int) + 1 ∧ (k : Int) + 1 < s.size := ‹_›
        have hne : ¬ (k : Int) + 1 = s.size := ‹_›
        have hd : ((k : Int) + 1 == s.size) = true ∨ ((s[k + 1].toNat : Int) != 39) = true := ‹_›
        have hd' : ¬ s[k + 1] = 39 := by
          rcases hd with hd | hd
          · exact absurd (by simpa using hd) hne
          · exact byte_bne (n := 39) (by decide) hd
        have ha := HT.out.shut hk1 (by omega) hc hd'
        go_ret2
        refine ⟨ret_text ?_ ?_, HL.out.trans H2.out⟩
        · unfold textAns; rw [ha]
        · unfold textAns; rw [ha]; show (_ : Int) = ((k + 1 : Nat) : Int); omega
      · have hc : s[k] = 39 := byte_eq (n := 39) (by decide) ‹_›
        have he : 0 ≤ (k : Int) + 1 ∧ (k : Int) + 1 < s.size := ‹_›
        have hd : ((k : Int) + 1 == s.size) = false ∧ ((s[k + 1].toNat : Int) != 39) = false := ‹_›
        have hd' : s[k + 1] = 39 := byte_beq (n := 39) (by decide) hd.2
        have ha := HT.out.twice hk1 (by omega) hc hd'
        go_roundw
        case rel =>
          refine ⟨k + 2, l ++ [39], by omega, by go_num, by omega, by simp; omega, ha, ?_, HL.out.trans H2.out⟩
          rw [byteCells_snoc, ← hd']
          exact .inr H1.out
        case measure => simp [intOf]; omega
      · have hc : ¬ s[k] = 39 := byte_ne (n := 39) (by decide) ‹_›
        have ha := HT.out.plain hk1 hlt hc
        go_roundw
        case rel =>
          refine ⟨k + 1, l ++ [s[k]], by omega, by go_num, by omega, by simp; omega, ha, ?_, HL.out.trans H2.out⟩
          rw [byteCells_snoc]
          exact .inr H1.out
        case measure => simp [intOf]; omega
    · go_wp2
      go_ret2
      refine ⟨ret_text ?_ ?_, HL.out⟩
      · unfold textAns; rw [HT.out.none_ (by omega)]
      · unfold textAns; rw [HT.out.none_ (by omega)]; rfl
end Go.Proofs.YtgidnbkbmjjihaaGreatDoor
