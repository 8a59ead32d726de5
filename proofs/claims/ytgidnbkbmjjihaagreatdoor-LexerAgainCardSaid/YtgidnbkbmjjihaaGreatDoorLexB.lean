/- Large letters as small ones: the lexer's loop over the bytes of a word, walked. -/
import Derived.Test.YtgidnbkbmjjihaaGreatDoorLexA
import Derived.Laws.BytesArg
namespace Go.Proofs.YtgidnbkbmjjihaaGreatDoor
open Go.RowKit

/-- The block of the word's bytes, k of which have been gone through. -/
def LowRel (s : ByteArray) (w : World) (k : Nat) (wr : World) : Prop :=
  Below w.heap.size w wr ∧ ∃ (cs : Array Value) (m : Nat), wr.heap[w.heap.size]? = some (.cells cs 5 (m, m + 1)) ∧ s.size ≤ m ∧ m = cs.size ∧
    ∀ j, j < s.size → cs[j]? = some (.int .u8 (if j < k then (Lex.lowerB (s.data.toList.getD j 0)).toNat else (s.data.toList.getD j 0).toNat : Nat))

theorem LowRel.start (s : ByteArray) (w : World) : LowRel s w 0 (Lib.bytesWorld w 5 s) := by
  refine ⟨⟨rfl, rfl, rfl, by rw [Lib.bytesWorld_size]; omega, fun k hk => Lib.bytesWorld_at_old w _ s k hk⟩, _, _, Lib.bytesWorld_at_new w _ s, ?_, rfl, fun j hj => ?_⟩
  · simp [Lib.bytesCells, grownCap]
  · have h := Lib.bytesWorld_cell w 5 s j hj
    simp only [World.cell?, Lib.bytesWorld_at_new] at h
    simpa using h

theorem LowRel.cell {s : ByteArray} {w wr : World} {k j : Nat} (h : LowRel s w k wr) (hj : j < s.size) (hk : k ≤ j) : wr.cell? ⟨w.heap.size, j, none⟩ = some (.int .u8 (s.data.toList.getD j 0).toNat) := by
  obtain ⟨_, cs, m, hb, _, _, hc⟩ := h
  have := hc j hj
  rw [if_neg (by omega)] at this
  simp [World.cell?, hb, this]

theorem LowRel.free {s : ByteArray} {w wr : World} {k j : Nat} (h : LowRel s w k wr) (hj : j < s.size) : wr.frozen? ⟨w.heap.size, j, none⟩ = false := by
  obtain ⟨_, cs, m, hb, hm, _⟩ := h
  simp [World.frozen?, hb]
  omega

theorem LowRel.step {s : ByteArray} {w wr : World} {k : Nat} (h : LowRel s w k wr) (hk : k < s.size) :
    LowRel s w (k + 1) (wr.setCell ⟨w.heap.size, k, none⟩ (.int .u8 (Lex.lowerB (s.data.toList.getD k 0)).toNat)) := by
  obtain ⟨hbl, cs, m, hb, hm, hmc, hc⟩ := h
  refine ⟨hbl.setCell (Nat.le_refl _) _, cs.setIfInBounds k (.int .u8 (Lex.lowerB (s.data.toList.getD k 0)).toNat), m, ?_, hm, by simp [hmc], fun j hj => ?_⟩
  · simp [World.setCell, Array.getElem?_modify, hb]
  · rw [Array.getElem?_setIfInBounds]
    by_cases e : k = j
    · subst e; rw [if_pos rfl, if_pos (by omega), if_pos (by omega)]
    · rw [if_neg e, hc j hj]
      by_cases h2 : j < k
      · rw [if_pos h2, if_pos (by omega)]
      · rw [if_neg h2, if_neg (by omega)]

theorem LowRel.stay {s : ByteArray} {w wr : World} {k : Nat} (h : LowRel s w k wr) (he : Lex.lowerB (s.data.toList.getD k 0) = s.data.toList.getD k 0) : LowRel s w (k + 1) wr := by
  obtain ⟨hbl, cs, m, hb, hm, hmc, hc⟩ := h
  refine ⟨hbl, cs, m, hb, hm, hmc, fun j hj => ?_⟩
  rw [hc j hj]
  by_cases e : j = k
  · subst e; rw [if_neg (by omega), if_pos (by omega), he]
  · by_cases h2 : j < k
    · rw [if_pos h2, if_pos (by omega)]
    · rw [if_neg h2, if_neg (by omega)]

theorem low_end (l : List UInt8) (n : Nat) (hn : l.length = n) : strOfNums ((l.map Lex.lowerB).map fun c => (c.toNat : Int)) = ⟨(l.map Lex.lowerB).toArray⟩ := by
  unfold strOfNums
  congr 2
  rw [List.map_map]
  simp

theorem LowRel.conv {s : ByteArray} {w wr : World} (h : LowRel s w s.size wr) (cap : Nat) :
    (convert 131 9 (.slice (some ⟨w.heap.size, 0, none⟩) s.size cap)).run Tryz.prog wr = .ok (.string ⟨(s.data.toList.map Lex.lowerB).toArray⟩) wr := by
  have hl : s.data.toList.length = s.size := by rw [Array.length_toList]; rfl
  have := run_convert_bytes_arg (P := Tryz.prog) wr 131 5 Tryz.underlying131 Tryz.underlying5 w.heap.size 0 s.size cap ((s.data.toList.map Lex.lowerB).map fun c => (c.toNat : Int)) (by simp [hl])
    (fun i hi => by
      obtain ⟨_, cs, m, hb, hm, _, hc⟩ := h
      have h1 := hc i hi
      rw [if_pos hi] at h1
      have e : (((s.data.toList.map Lex.lowerB).map fun c => (c.toNat : Int)).getD i 0) = ((Lex.lowerB (s.data.toList.getD i 0)).toNat : Int) := by
        simp only [List.getD, List.getElem?_map, List.getElem?_eq_getElem (show i < s.data.toList.length by omega), Option.map_some, Option.getD_some]
      rw [e]
      simp [World.cell?, hb, h1]) 9 Tryz.underlying9
  rw [this, low_end _ _ hl]

theorem lowered_any (s : ByteArray) (w : World) (hs : s.size ≤ maxLen) :
    Calls Tryz.prog 99 #[.string s] w fun e w' => e = .returned (.string ⟨(s.data.toList.map Lex.lowerB).toArray⟩) ∧ Below w.heap.size w w' := by
  unfold maxLen at hs
  have hcv := fun W : World => Lib.run_convert_string_bytes (P := Tryz.prog) W 9 131 5 s Tryz.underlying9 Tryz.underlying131 Tryz.underlying5
  go_enter Tryz.func99, Tryz.ntmps99
  go_wp2
  have hst := LowRel.start s w
  clear hcv
  generalize Lib.bytesWorld w 5 s = wb at hst ⊢
  generalize grownCap w s.size 0 5 = cap
  go_loopw [10, 4, 5] (fun i _ _ wr => ∃ k : Nat, k ≤ s.size ∧ i = .int .i64 k ∧ LowRel s w k wr) (fun i _ _ _ => s.size - (intOf i).toNat)
  case atStart => exact ⟨0, Nat.zero_le _, rfl, hst⟩
  case round =>
    obtain ⟨k, hk, rfl, hr⟩ := hrel
    by_cases hlt : k < s.size
    · have hcell := hr.cell hlt (Nat.le_refl _)
      have hfree := hr.free hlt
      obtain ⟨c, HC⟩ : ∃ c, Hid (s.data.toList.getD k 0 = c) := ⟨_, rfl⟩
      rw [HC.out] at hcell
      have hc := c.toNat_lt
      obtain ⟨n, HN⟩ : ∃ n, Hid (c.toNat = n) := ⟨_, rfl⟩
      rw [HN.out] at hcell hc
      have HR := Lib.hid hr
      clear hr
      by_cases h1 : 65 ≤ (n : Int)
      · by_cases h2 : (n : Int) ≤ 90
        · go_wp2
          go_roundw
          case rel =>
            have e : Lex.lowerB c = c + 32 := by unfold Lex.lowerB; rw [HN.out, if_pos (by omega)]
            have e2 : (Lex.lowerB c).toNat = n + 32 := by
              rw [e, UInt8.toNat_add, HN.out]
              simp
              omega
            have h := HR.out.step hlt
            rw [HC.out, e2] at h
            refine ⟨k + 1, by omega, by go_num, ?_⟩
            have e3 : ((n + 32 : Nat) : Int) = (n : Int) + 97 - 65 := by omega
            rw [e3] at h
            exact h
          case measure => simp [intOf]; omega
        · have hst : LowRel s w (k + 1) wr := HR.out.stay (by rw [HC.out]; unfold Lex.lowerB; rw [HN.out, if_neg (by omega)])
          go_wp2
          go_roundw
          case rel => exact ⟨k + 1, by omega, by go_num, hst⟩
          case measure => simp [intOf]; omega
      · have hst : LowRel s w (k + 1) wr := HR.out.stay (by rw [HC.out]; unfold Lex.lowerB; rw [HN.out, if_neg (by omega)])
        go_wp2
        go_roundw
        case rel => exact ⟨k + 1, by omega, by go_num, hst⟩
        case measure => simp [intOf]; omega
    · obtain rfl : k = s.size := by omega
      have hcv := hr.conv cap
      go_wp2
      go_ret
      exact ⟨rfl, hr.1⟩
end Go.Proofs.YtgidnbkbmjjihaaGreatDoor
