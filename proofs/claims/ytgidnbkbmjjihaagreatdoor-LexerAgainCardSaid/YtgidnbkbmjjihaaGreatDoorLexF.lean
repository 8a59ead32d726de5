/- Two hexadecimal digits read as a number (strconv.ParseUint at base 16, 8 bits, of two bytes), walked. -/
import Derived.Test.YtgidnbkbmjjihaaGreatDoorLexE
import Derived.Deep.Cut
import Derived.Deep.DeepCutAuto
namespace Go.Proofs.YtgidnbkbmjjihaaGreatDoor
open Go.RowKit

/-- A byte with the bit of small letters set. -/
def lw (c : UInt8) : Int := bits .or .u8 c.toNat 32

def hexKind (c : UInt8) : Bool :=
  (decide (48 ≤ c.toNat ∧ c.toNat ≤ 57) && decide (Lex.hexVal c = some (c.toNat - 48))) ||
  (decide (¬ (48 ≤ c.toNat ∧ c.toNat ≤ 57)) && decide (97 ≤ lw c ∧ lw c ≤ 102) && decide (Lex.hexVal c = some (lw c - 87).toNat)) ||
  (decide (¬ (48 ≤ c.toNat ∧ c.toNat ≤ 57)) && decide (103 ≤ lw c ∧ lw c ≤ 122) && decide (Lex.hexVal c = none)) ||
  (decide (¬ (48 ≤ c.toNat ∧ c.toNat ≤ 57)) && decide ((0 ≤ lw c ∧ lw c < 97) ∨ (122 < lw c ∧ lw c ≤ 255)) && decide (Lex.hexVal c = none))

theorem lw95 : lw 95 = 127 := by kernel_rfl

theorem hexKind_all : (List.range 256).all (fun n => hexKind (UInt8.ofNat n)) = true := by kernel_rfl

theorem hexKind_any (c : UInt8) : hexKind c = true := by
  have h := List.all_eq_true.1 hexKind_all c.toNat (List.mem_range.2 c.toNat_lt)
  rwa [UInt8.ofNat_toNat] at h

theorem lower_any (c : UInt8) (w : World) :
    Calls Tryz.prog 303 #[.int .u8 c.toNat] w fun e w' => e = .returned (.int .u8 (lw c)) ∧ w = w' :=
  (Tryz.internal_strconv_lower c.toNat w).mono fun _ _ ⟨h1, h2⟩ => ⟨h1, h2.symm⟩

/-- The number that the first k bytes say; none: one of them is no digit. -/
def hexNum : List UInt8 → Nat → Option Nat
  | [], n => some n
  | c :: r, n => match Lex.hexVal c with
    | some d => hexNum r (n * 16 + d)
    | none => none

def hexAns (l : List UInt8) : Value := match hexNum l 0 with
  | some n => .tuple #[.int .u64 n, .nilIface]
  | none => .tuple #[.int .u64 0, .iface 314 (.int .i64 2)]

theorem hexAns_none {l : List UInt8} (h : hexNum l 0 = none) : hexAns l = .tuple #[.int .u64 0, .iface 314 (.int .i64 2)] := by unfold hexAns; rw [h]
theorem hexAns_some {l : List UInt8} {n : Nat} (h : hexNum l 0 = some n) : hexAns l = .tuple #[.int .u64 n, .nilIface] := by unfold hexAns; rw [h]

set_option maxRecDepth 100000 in
set_option maxHeartbeats 2000000 in
theorem uint16_any (s : ByteArray) (w : World) (hs : s.size = 2) :
    Calls Tryz.prog 261 #[.string s, .int .i64 16, .int .i64 8] w fun e w' => e = .returned (hexAns s.data.toList) ∧ Below w.heap.size w w' := by
  have hcv := fun W : World => Lib.run_convert_string_bytes (P := Tryz.prog) W 9 131 5 s Tryz.underlying9 Tryz.underlying131 Tryz.underlying5
  have hl : s.data.toList.length = 2 := by rw [toList_length]; exact hs
  have hne : s.toList.isEmpty = false := by
    rw [Lib.toList_data]
    cases h : s.data.toList with
    | nil => rw [h] at hl; simp at hl
    | cons a r => rfl
  have HL := Lib.hid hl
  have hs1 : 2 ≤ s.size := by omega
  have hs2 : s.size ≤ 2 := by omega
  clear hs hl
  have hbl : Below w.heap.size w (Lib.bytesWorld w 5 s) := ⟨rfl, rfl, rfl, by rw [Lib.bytesWorld_size]; omega, fun k hk => Lib.bytesWorld_at_old w _ s k hk⟩
  have hcell := fun j (hj : j < s.size) => Lib.bytesWorld_cell w 5 s j hj
  go_enter Tryz.func261, Tryz.ntmps261
  go_wp2
  clear hcv
  generalize Lib.bytesWorld w 5 s = wb at hbl hcell ⊢
  generalize grownCap w s.size 0 5 = cap
  have HC := Lib.hid hcell
  have HB := Lib.hid hbl
  clear hcell hbl
  obtain ⟨cut, HCUT⟩ : ∃ c : Int, Hid (1152921504606846976 = c) := ⟨_, rfl⟩
  have hcut : 255 < cut := by rw [← HCUT.out]; decide
  rw [HCUT.out]
  clear HCUT
  go_loop [12, 13, 101] (fun u n i => ∃ k m : Nat, k ≤ s.size ∧ u = .bool false ∧ i = .int .i64 k ∧ n = .int .u64 m ∧ Hid (hexNum (s.data.toList.drop k) m = hexNum s.data.toList 0) ∧ (k = 0 → m = 0) ∧ (k = 1 → m ≤ 15) ∧ m ≤ 255) (fun _ _ i => s.size - (intOf i).toNat)
  case atStart => exact ⟨0, 0, Nat.zero_le _, rfl, rfl, rfl, rfl, by simp, by simp, by simp⟩
  case round =>
    obtain ⟨k, m, hk, rfl, rfl, rfl, HR, hm0, hm1, hm2⟩ := hrel
    by_cases hlt : k < s.size
    · have hcl := HC.out k hlt
      obtain ⟨c, HX⟩ : ∃ c, Hid (s.data.toList.getD k 0 = c) := ⟨_, rfl⟩
      have HD : Hid (s.data.toList.drop k = c :: s.data.toList.drop (k + 1)) := by
        show _ = _
        rw [List.drop_eq_getElem_cons (by rw [HL.out]; omega), ← HX.out]
        congr 1
        rw [List.getD, List.getElem?_eq_getElem (by rw [HL.out]; omega)]; rfl
      rw [HX.out] at hcl
      have hK := hexKind_any c
      obtain ⟨n, HN⟩ : ∃ n, Hid (c.toNat = n) := ⟨_, rfl⟩
      obtain ⟨q, HQ⟩ : ∃ q, Hid (lw c = q) := ⟨_, rfl⟩
      have HW : ∀ W, Hid (Calls Tryz.prog 303 #[.int .u8 n] W fun e w' => e = .returned (.int .u8 q) ∧ W = w') := fun W => by
        rw [← HN.out, ← HQ.out]; exact Lib.hid (lower_any c W)
      rw [HN.out] at hcl
      have hm15 : m ≤ 15 := by omega
      have HM0 := Lib.hid hm0
      clear hm0 hm1 hm2
      simp only [hexKind, Bool.or_eq_true, Bool.and_eq_true, decide_eq_true_eq, HN.out, HQ.out] at hK
      have hR' : ∀ d, Lex.hexVal c = some d → hexNum (s.data.toList.drop (k + 1)) (m * 16 + d) = hexNum s.data.toList 0 := fun d hd => by
        rw [← HR.out, HD.out]; simp [hexNum, hd]
      have hRn : Lex.hexVal c = none → hexNum s.data.toList 0 = none := fun hd => by
        rw [← HR.out, HD.out]; simp [hexNum, hd]
      have HR1 := Lib.hid hR'
      have HR2 := Lib.hid hRn
      clear hR' hRn
      have h95 : n = 95 → q = 127 := fun e => by
        have : c = 95 := UInt8.toNat_inj.1 (by rw [HN.out, e]; rfl)
        rw [← HQ.out, this]; exact lw95
      rcases hK with ((⟨⟨h1, h2⟩, h3⟩ | ⟨⟨h1, ⟨h2, h3⟩⟩, h4⟩) | ⟨⟨h1, ⟨h2, h3⟩⟩, h4⟩) | ⟨⟨h1, h2⟩, h3⟩
      · have H3 := Lib.hid h3
        have hne : ¬ (n : Int) = 95 := by omega
        clear h3 h95
        go_wp2_with (go_at_call 303; (with_reducible refine (HW _).out.mono ?_); rintro e w' ⟨rfl, rfl⟩)
        go_round
        case rel => exact ⟨k + 1, m * 16 + (n - 48), by omega, rfl, by go_num, by rw [show ((m * 16 + (n - 48) : Nat) : Int) = (m : Int) * 16 + ((n : Int) - 48) by omega], HR1.out _ H3.out, by omega, (by have := HM0.out; omega), by omega⟩
        case measure => simp [intOf]; omega
      · have H3 := Lib.hid h4
        have hne : ¬ (n : Int) = 95 := fun e => by have := h95 (by omega); omega
        clear h4 h95
        go_wp2_with (go_at_call 303; (with_reducible refine (HW _).out.mono ?_); rintro e w' ⟨rfl, rfl⟩)
        all_goals
          go_round
          case rel => exact ⟨k + 1, m * 16 + (q - 87).toNat, by omega, rfl, by go_num, by rw [show ((m * 16 + (q - 87).toNat : Nat) : Int) = (m : Int) * 16 + (q - 97 + 10) by omega], HR1.out _ H3.out, by omega, (by have := HM0.out; omega), by omega⟩
          case measure => simp [intOf]; omega
      · have H3 := Lib.hid h4
        have hne : ¬ (n : Int) = 95 := fun e => by have := h95 (by omega); omega
        clear h4 h95
        go_wp2_with (go_at_call 303; (with_reducible refine (HW _).out.mono ?_); rintro e w' ⟨rfl, rfl⟩)
        all_goals
          go_ret2
          exact ⟨by rw [hexAns_none (HR2.out H3.out)] <;> rfl, HB.out⟩
      · have H3 := Lib.hid h3
        clear h3
        by_cases hne : (n : Int) = 95
        · have hq : q = 127 := h95 (by omega)
          obtain rfl : n = 95 := by omega
          subst hq
          have HW2 : ∀ W, Hid (Calls Tryz.prog 303 #[.int .u8 95] W fun e w' => e = .returned (.int .u8 127) ∧ W = w') := fun W => HW W
          clear h95 hne h1 h2
          go_wp2_with (go_at_call 303; (with_reducible refine (HW2 _).out.mono ?_); rintro e w' ⟨rfl, rfl⟩)
          go_ret2
          exact ⟨by rw [hexAns_none (HR2.out H3.out)] <;> rfl, HB.out⟩
        · clear h95
          go_wp2_with (go_at_call 303; (with_reducible refine (HW _).out.mono ?_); rintro e w' ⟨rfl, rfl⟩)
          all_goals
            go_ret2
            exact ⟨by rw [hexAns_none (HR2.out H3.out)] <;> rfl, HB.out⟩
    · obtain rfl : k = s.size := by omega
      go_wp2
      go_ret2
      exact ⟨by rw [hexAns_some (n := m) (by rw [← HR.out, List.drop_of_length_le (by rw [HL.out]; omega)]; rfl)] <;> rfl, HB.out⟩
end Go.Proofs.YtgidnbkbmjjihaaGreatDoor
