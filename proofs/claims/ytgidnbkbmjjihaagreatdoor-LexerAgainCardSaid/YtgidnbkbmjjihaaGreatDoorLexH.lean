/- The walk of blob. -/
import Derived.Test.YtgidnbkbmjjihaaGreatDoorLexG
namespace Go.Proofs.YtgidnbkbmjjihaaGreatDoor
open Go.RowKit

theorem ret_text2 {l l' : List UInt8} {n n' : Int} (h : l = l') (h' : n = n') : Ending.returned (.tuple #[.string ⟨l.toArray⟩, .int .i64 n]) = .returned (.tuple #[.string ⟨l'.toArray⟩, .int .i64 n']) := by rw [h, h']

theorem blobAns_none {s : ByteArray} (h : Lex.blobOf s.data.toList = none) : blobAns s = ([], 0) := by unfold blobAns; rw [h]
theorem blobAns_some {s : ByteArray} {l : List UInt8} {n : Nat} (h : Lex.blobOf s.data.toList = some (l, n)) : blobAns s = (l, n) := by unfold blobAns; rw [h]

theorem blobOf_eq (s : List UInt8) : Lex.blobOf s = if 39 ∈ s.drop 1 then (Lex.hexPairs ((s.drop 1).takeWhile fun c => c != 39)).map fun l => (l, ((s.drop 1).takeWhile fun c => c != 39).length + 2) else none := by
  unfold Lex.blobOf
  simp only []
  have h := Lex.takeWhile_no (s.drop 1)
  by_cases hm : 39 ∈ s.drop 1
  · have := h.2 hm
    rw [if_pos hm, if_pos (by simp at this ⊢; omega)]
  · have : ¬ ((s.drop 1).takeWhile fun c => c != 39).length < (s.drop 1).length := fun x => hm (h.1 x)
    rw [if_neg hm, if_neg (by simp at this ⊢; omega)]

theorem ownsRow_below {w w' : World} {base : Nat} {e : TypeId} {size n : Nat} {v : Value} {xs : List Value} (h : w.ownsRow base e size v n xs) (hb : Below w.heap.size w w') : w'.ownsRow base e size v n xs :=
  h.kept (row := none) ⟨hb.os, hb.tape, hb.output, hb.size, fun i hi _ => hb.block i hi⟩ (by
    cases hv : v.ownBlock with
    | none => exact .inl rfl
    | some k => exact .inr (by simp))

theorem builderAt_below {T e : TypeId} {B b : Nat} {p : Value} {bs : List Value} {w w' : World} (h : Lib.BuilderAt T e B b p bs w) (hb : Below w.heap.size w w') : Lib.BuilderAt T e B b p bs w' := by
  have hlt := h.lt
  obtain ⟨h1, v, h2, h3, h4⟩ := h
  exact ⟨h1, v, (hb.block b hlt).trans h2, ownsRow_below h3 hb, h4⟩

theorem isBuilder_below {T e : TypeId} {B b : Nat} {bs : List Value} {w w' : World} (h : Lib.IsBuilder T e B b bs w) (hb : Below w.heap.size w w') : Lib.IsBuilder T e B b bs w' :=
  h.elim (fun h => .inl (builderAt_below h hb)) (fun h => .inr (builderAt_below h hb))

set_option maxHeartbeats 2000000 in
theorem blob_any (s : ByteArray) (w : World) (h1 : 1 ≤ s.size) (hs : s.size ≤ 16384) (hL : Laid w) :
    Calls Tryz.prog 94 #[.string s] w fun e w' => e = .returned (.tuple #[.string ⟨(blobAns s).1.toArray⟩, .int .i64 (blobAns s).2]) ∧ Below w.heap.size w w' := by
  obtain ⟨m, hm⟩ := hL.maxLen
  have hcl := toList_length s
  have ex := Lib.extract_data s 1 s.size
  have exl : (s.extract 1 s.size).data.toList = s.data.toList.drop 1 := by rw [ex, List.take_of_length_le (by rw [List.length_drop, hcl]; exact Nat.le_refl _)]
  have HC : Hid (Calls Tryz.prog 185 #[.string (s.extract 1 s.size), .string ⟨#[39]⟩] w fun e w' => e = .returned (.tuple #[.string ⟨(Lib.cut (s.data.toList.drop 1) [39]).1.toArray⟩, .string ⟨(Lib.cut (s.data.toList.drop 1) [39]).2.1.toArray⟩, .bool (Lib.cut (s.data.toList.drop 1) [39]).2.2]) ∧ ∃ n, w' = w.drewN n) := by
    have h := Tryz.strings_Cut (s.extract 1 s.size) ⟨#[39]⟩ m w (by rw [ByteArray.size_extract]; omega) hm
    rw [exl] at h
    exact Lib.hid h
  have HB := Lib.hid (blobOf_eq s.data.toList)
  have HL := Lib.hid hL
  clear hm hL hcl ex exl
  rw [cut_quote] at HC
  by_cases hq : 39 ∈ s.data.toList.drop 1
  · rw [if_pos hq] at HC HB
    simp only [] at HC
    generalize (Lib.cut (s.data.toList.drop 1) [39]).2.1 = rest at HC
    generalize hds : (s.data.toList.drop 1).takeWhile (fun c => c != 39) = ds at HC HB
    have hdl : ds.length ≤ 16384 := by
      have := Lex.takeWhile_le (fun c : UInt8 => c != 39) (s.data.toList.drop 1)
      rw [hds, List.length_drop, toList_length] at this
      omega
    clear hds hq
    obtain ⟨D, HD⟩ : ∃ D : ByteArray, Hid (D = ⟨ds.toArray⟩) := ⟨_, rfl⟩
    have hDs : D.size = ds.length := by rw [HD.out]; rfl
    have hDl : D.data.toList = ds := by rw [HD.out]
    rw [← HD.out] at HC
    by_cases hodd : ds.length % 2 = 1
    · have hbn := blobAns_none (s := s) (by rw [HB.out, BlobAt.odd ds hodd]; rfl)
      have hmod : ((D.size : Int) % 2 != 0) = true := by rw [hDs]; simp; omega
      rw [hbn]
      have HX := Lib.hid hDs
      have HY := Lib.hid hDl
      clear hbn hDs hDl hodd
      go_enter Tryz.func94, Tryz.ntmps94
      go_wp2_with (first | (go_at_call 185; (with_reducible refine HC.out.mono ?_); rintro e w1 ⟨rfl, n, rfl⟩))
      go_ret2
      exact ⟨rfl, (Below.refl _ _).trans ⟨rfl, rfl, rfl, Nat.le_refl _, fun _ _ => rfl⟩⟩
    · have hmod : ((D.size : Int) % 2 != 0) = false := by rw [hDs]; simp; omega
      have HX := Lib.hid hDs
      have HY := Lib.hid hDl
      have hDsz : D.size ≤ 16384 := by omega
      clear hDs hDl
      go_enter Tryz.func94, Tryz.ntmps94
      go_wp2_with (first | (go_at_call 185; (with_reducible refine HC.out.mono ?_); rintro e w1 ⟨rfl, n, rfl⟩))
      have hb0 := Lib.fresh_isBuilder 177 5 (w.drewN n)
      have hbl0 : Below w.heap.size w ((w.drewN n).alloc (.cells #[.pointer none, .slice none 0 0] 177)) := ((Below.refl _ _).trans ⟨rfl, rfl, rfl, Nat.le_refl _, fun _ _ => rfl⟩ : Below w.heap.size w (w.drewN n)).alloc (Nat.le_refl _) _
      go_loopw [8] (fun i wr => ∃ (k : Nat) (l : List UInt8), i = .int .i64 k ∧ k % 2 = 0 ∧ k ≤ D.size ∧ l.length ≤ k ∧ BlobAt ds k l ∧ Lib.IsBuilder 177 5 w.heap.size w.heap.size (Lib.byteCells l) wr ∧ Below w.heap.size w wr) (fun i _ => D.size - (intOf i).toNat)
      case atStart => exact ⟨0, [], rfl, rfl, Nat.zero_le _, Nat.le_refl _, BlobAt.start ds, hb0, hbl0⟩
      case round =>
        clear hb0 hbl0
        obtain ⟨k, l, rfl, hk2, hk, hl, ht, hb, hbl⟩ := hrel
        have HT := Lib.hid ht
        have HBu := Lib.hid hb
        have HBl := Lib.hid hbl
        have hsz := hbl.size
        clear ht hb hbl
        by_cases hlt : k < D.size
        · have hk3 : k + 2 ≤ D.size := by
            have h2 : D.size % 2 = 0 := by have := hmod; simp at this; omega
            omega
          have hk4 : k + 2 ≤ ds.length := by rw [← HX.out]; exact hk3
          have hsub : (D.extract k (k + 2)).data.toList = (ds.drop k).take 2 := by rw [Lib.extract_data, HY.out]; congr 1; omega
          have hsubs : (D.extract k (k + 2)).size = 2 := by rw [ByteArray.size_extract]; omega
          have HU := hex2_any (D.extract k (k + 2)) wr hsubs (HL.out.below (Nat.le_refl _) HBl.out)
          rw [hsub] at HU
          rcases hn : hexNum ((ds.drop k).take 2) 0 with _ | n0
          · rw [hn] at HU
            have HU2 := Lib.hid HU
            have HBN := Lib.hid (blobAns_none (s := s) (by rw [HB.out, HT.out.bad hk4 hn]; rfl))
            clear HU hn hsub hsubs hk4
            go_wp2_with (first | (go_at_call 186; (with_reducible refine HU2.out.mono ?_); rintro e w1 ⟨⟨p, rfl⟩, h2⟩; have H2 := Lib.hid h2; clear h2))
            go_ret2
            exact ⟨ret_text2 (by rw [HBN.out]) (by rw [HBN.out]; rfl), HBl.out.trans (H2.out.mono hsz)⟩
          · rw [hn] at HU
            have HU2 := Lib.hid HU
            obtain ⟨hn1, hn2, hn3, hn4⟩ := HT.out.good hk4 hn
            have HN2 := Lib.hid hn2
            have HCA : ∀ W, Hid (Calls Tryz.prog 187 #[.string (D.extract k (k + 2)), .string ⟨#[43, 45, 95]⟩] W fun e w' => e = .returned (.bool false) ∧ Below W.heap.size W w') := fun W => by
              have h := Tryz.strings_ContainsAny_laid (D.extract k (k + 2)) ⟨#[43, 45, 95]⟩ W (by omega) (by decide) (by rw [hsub]; exact hn3) (by
                intro j b hj
                match j, hj with
                | 0, hj => simp at hj; subst hj; decide
                | 1, hj => simp at hj; subst hj; decide
                | 2, hj => simp at hj; subst hj; decide)
              rw [hsub, bytes_toList, hn4] at h
              exact Lib.hid h
            clear HU hn hsub hsubs hk4 hn2 hn3 hn4
            go_wp2_with (first | (go_at_call 186; (with_reducible refine HU2.out.mono ?_); rintro e w1 ⟨rfl, h2⟩; have H2 := Lib.hid h2; clear h2) | (go_at_call 187; (with_reducible refine (HCA _).out.mono ?_); rintro e w2 ⟨rfl, h3⟩; have H3 := Lib.hid h3; clear h3))
            have H23 : Hid (Below wr.heap.size wr w2) := Lib.hid (H2.out.trans (H3.out.mono H2.out.size))
            have hs2 := H23.out.size
            refine (writeByte_any w.heap.size w.heap.size (Lib.byteCells l) n0 w2 (isBuilder_below HBu.out H23.out) (by rw [byteCells_length]; omega) (by omega)).mono ?_
            rintro e w3 ⟨rfl, h4, h5⟩
            have H4 := Lib.hid h4
            have H5 := Lib.hid h5
            clear h4 h5
            go_wp2
            go_roundw
            case rel =>
              refine ⟨k + 2, l ++ [UInt8.ofNat n0], by go_num, by omega, hk3, by simp; omega, HN2.out, ?_, HBl.out.trans ((H23.out.mono hsz).trans H5.out)⟩
              rw [byteCells_snoc, UInt8.toNat_ofNat', Nat.mod_eq_of_lt (by omega)]
              exact .inr H4.out
            case measure => simp [intOf]; omega
        · obtain rfl : k = D.size := by omega
          have hfin : Lex.hexPairs ds = some l := by
            have h := HT.out
            unfold BlobAt at h
            rw [h, List.drop_of_length_le (by rw [← HX.out]; exact Nat.le_refl _)]
            simp [Lex.hexPairs]
          have HBN := Lib.hid (blobAns_some (s := s) (l := l) (n := ds.length + 2) (by rw [HB.out, hfin]; rfl))
          clear hfin
          go_wp2_with (go_at_call 108; refine (Tryz.Builder_String_any _ _ l _ HBu.out hsz).mono ?_; rintro e w1 ⟨rfl, h2⟩; have H2 := Lib.hid h2; clear h2)
          go_ret2
          exact ⟨ret_text2 (by rw [HBN.out]) (by rw [HBN.out]; show (D.size : Int) + 2 = ((ds.length + 2 : Nat) : Int); rw [HX.out]; omega), HBl.out.trans H2.out⟩
  · rw [if_neg hq] at HC HB
    have hbn := blobAns_none HB.out
    rw [hbn]
    clear hbn
    go_enter Tryz.func94, Tryz.ntmps94
    go_wp2_with (first | (go_at_call 185; (with_reducible refine HC.out.mono ?_); rintro e w1 ⟨rfl, n, rfl⟩))
    go_ret2
    exact ⟨rfl, (Below.refl _ _).trans ⟨rfl, rfl, rfl, Nat.le_refl _, fun _ _ => rfl⟩⟩
end Go.Proofs.YtgidnbkbmjjihaaGreatDoor
