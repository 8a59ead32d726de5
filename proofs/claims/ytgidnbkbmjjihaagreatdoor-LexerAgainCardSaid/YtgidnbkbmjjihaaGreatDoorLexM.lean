/- The words of a text: the walk of Tokens. -/
import Derived.Test.YtgidnbkbmjjihaaGreatDoorLexL
namespace Go.Proofs.YtgidnbkbmjjihaaGreatDoor
open Go.RowKit

theorem Laid.of_below {w w' : World} (h : Laid w) (hb : Below w.heap.size w w') : Laid w' := h.below (Nat.le_refl _) hb
theorem LaidE.of_below {w w' : World} (h : LaidE w) (hb : Below w.heap.size w w') : LaidE w' := h.below (Nat.le_refl _) hb

theorem extract_from (s : ByteArray) (k : Nat) : (s.extract k s.size).data.toList = s.data.toList.drop k := by
  rw [Lib.extract_data, List.take_of_length_le (by rw [List.length_drop, toList_length]; exact Nat.le_refl _)]

theorem tokCells_len (l : List Lex.Tok) : (l.flatMap tokCells).length = l.length * 4 := by
  induction l with
  | nil => rfl
  | cons a l ih => simp only [List.flatMap_cons, List.length_append, ih, List.length_cons]; simp [tokCells]; omega

theorem four_cells {w : World} {g : Nat} {a b c d : Value} {T : TypeId} (h : w.heap[g]? = some (.cells #[a, b, c, d] T (0, 0))) : ∀ j u, [a, b, c, d][j]? = some u → w.cell? ((⟨g, 0, none⟩ : Addr).add j) = some u := by
  intro j u hj
  have e : (⟨g, 0, none⟩ : Addr).add j = ⟨g, j, none⟩ := by unfold Addr.add; split <;> simp_all
  rw [e]
  simp only [World.cell?, h]
  simpa using hj

set_option maxHeartbeats 4000000 in
theorem tokens_long (s : ByteArray) (w : World) (hs : 16384 < s.size) :
    Calls Tryz.prog 15 #[.string s] w (TokensPost s w) := by
  have hs' : 16384 < (s.size : Int) := by omega
  go_enter Tryz.func15, Tryz.ntmps15
  go_wp2
  go_step3
  go_wp2
  rw [Exit.noGoto_ret]
  go_ret2
  exact TokensPost.long (p := w.heap.size) hs (Nat.le_refl _) (heap_alloc_new w _) ((Below.refl _ _).alloc (Nat.le_refl _) _)

theorem beq_false {c : UInt8} {n : Nat} (hn : n < 256) (h : ¬ c = UInt8.ofNat n) : ((c.toNat : Int) == (n : Int)) = false := by
  cases h' : ((c.toNat : Int) == (n : Int)) with
  | false => rfl
  | true => exact absurd (byte_eq hn h') h
theorem beq_true {c : UInt8} {n : Nat} (hn : n < 256) (h : c = UInt8.ofNat n) : ((c.toNat : Int) == (n : Int)) = true := by
  subst h
  rw [UInt8.toNat_ofNat', Nat.mod_eq_of_lt (by omega)]
  simp

theorem blank_cases (c : UInt8) (h : Lex.isBlank c = true) : ((c.toNat : Int) == 32) = true ∨ (((c.toNat : Int) == 32) = false ∧ ((c.toNat : Int) == 9) = true) ∨ (((c.toNat : Int) == 32) = false ∧ ((c.toNat : Int) == 9) = false ∧ ((c.toNat : Int) == 10) = true) ∨ (((c.toNat : Int) == 32) = false ∧ ((c.toNat : Int) == 9) = false ∧ ((c.toNat : Int) == 10) = false ∧ ((c.toNat : Int) == 13) = true) := by
  simp only [Lex.isBlank, Bool.or_eq_true, decide_eq_true_eq] at h
  simp only [beq_iff_eq, beq_eq_false_iff_ne, ne_eq]
  omega
theorem blank_not (c : UInt8) (h : Lex.isBlank c = false) : ((c.toNat : Int) == 32) = false ∧ ((c.toNat : Int) == 9) = false ∧ ((c.toNat : Int) == 10) = false ∧ ((c.toNat : Int) == 13) = false := by
  simp only [Lex.isBlank, Bool.or_eq_false_iff, decide_eq_false_iff_not] at h
  simp only [beq_eq_false_iff_ne, ne_eq]
  omega

theorem remark_at (s : ByteArray) (k : Nat) (b : Bool) (h : decide (isRemark (s.data.toList.drop k)) = b) :
    Hid (∀ W : World, Calls Tryz.prog 42 #[.string (s.extract k s.size), .string ⟨#[45, 45]⟩] W fun e w' => e = .returned (.bool b) ∧ W = w') := fun W => by
  have hp := Tryz.strings_HasPrefix (s.extract k s.size) ⟨#[45, 45]⟩ W
  rw [extract_from, bytes_toList] at hp
  have e : Lib.hasPrefix (s.data.toList.drop k) [45, 45] = b := by
    rw [← h]
    unfold Lib.hasPrefix isRemark
    match s.data.toList.drop k with
    | [] => rfl
    | [a] => simp [List.isPrefixOf]
    | a :: d :: r =>
      simp only [List.isPrefixOf, Bool.and_true, List.head?_cons, Option.some.injEq, List.drop_succ_cons, List.drop_zero]
      rw [Bool.eq_iff_iff]
      simp only [Bool.and_eq_true, beq_iff_eq, decide_eq_true_eq]
      exact ⟨fun h => ⟨h.1.symm, h.2.symm⟩, fun h => ⟨h.1.symm, h.2.symm⟩⟩
  rw [e] at hp
  exact hp.mono fun _ _ ⟨h1, h2⟩ => ⟨h1, h2.symm⟩

theorem newline_at (s : ByteArray) (k : Nat) : ∀ W : World, Calls Tryz.prog 43 #[.string (s.extract k s.size), .int .u8 10] W fun e w' => e = .returned (.int .i64 (if 10 ∈ s.data.toList.drop k then (((s.data.toList.drop k).takeWhile (fun c => c != 10)).length : Int) else -1)) ∧ W = w' := fun W => by
  have hp := Tryz.strings_IndexByte (s.extract k s.size) 10 W
  rw [extract_from, indexByte_eq] at hp
  exact hp.mono fun _ _ ⟨h1, h2⟩ => ⟨h1, h2.symm⟩

/-- What the loop keeps. -/
def TokRel (s : ByteArray) (w : World) (v : Value) (k : Nat) (acc : List Lex.Tok) (wr : World) : Prop :=
  ScanAt s k acc ∧ wr.ownsRow w.heap.size 30 4 v acc.length (acc.flatMap tokCells) ∧ Below w.heap.size w wr

set_option maxRecDepth 100000 in
set_option maxHeartbeats 4000000 in
theorem tokens_short (s : ByteArray) (w : World) (hs : s.size ≤ 16384) (hL : Laid w) :
    Calls Tryz.prog 15 #[.string s] w (TokensPost s w) := by
  have HLd := Lib.hid hL
  have HSz := Lib.hid hs
  have hs' : ¬ 16384 < (s.size : Int) := by omega
  clear hL hs
  obtain ⟨i0, hi, hz0, hz1, hz2⟩ := info_parts infoTok
  go_enter Tryz.func15, Tryz.ntmps15
  go_wp2
  go_step3
  go_wp2
  go_step3
  go_wp2
  go_loopw [4, 5] (fun v i wr => ∃ (k : Nat) (acc : List Lex.Tok), i = .int .i64 k ∧ k ≤ s.size ∧ acc.length ≤ k ∧ TokRel s w v k acc wr) (fun _ i _ => s.size - (intOf i).toNat)
  case atStart => exact ⟨0, [], rfl, Nat.zero_le _, Nat.le_refl _, ScanAt.start s, World.ownsRow_nil _ _ _ _, Below.refl _ _⟩
  case round =>
    obtain ⟨k, acc, rfl, hk, hacc, hR⟩ := hrel
    have HR := Lib.hid hR
    clear hR
    have hsz := HR.out.2.2.size
    have hsL := HSz.out
    by_cases hlt : k < s.size
    · rcases hb : Lex.isBlank s[k] with _ | _
      · obtain ⟨t1, t2, t3, t4⟩ := blank_not _ hb
        have HB := Lib.hid hb
        clear hb
        by_cases hr : isRemark (s.data.toList.drop k)
        · have t5 : ((s[k].toNat : Int) == 45) = true := beq_true (n := 45) (by decide) ((remark_iff s k hlt).1 hr).1
          have HP := remark_at s k true (decide_eq_true hr)
          have HN := Lib.hid (newline_at s k)
          by_cases hm : 10 ∈ s.data.toList.drop k
          · simp only [if_pos hm] at HN
            have hle : k + ((s.data.toList.drop k).takeWhile (fun c => c != 10)).length ≤ s.size := by
              have := Lex.takeWhile_le (fun c : UInt8 => c != 10) (s.data.toList.drop k)
              rw [List.length_drop, toList_length] at this
              omega
            have hge : 1 ≤ ((s.data.toList.drop k).takeWhile (fun c => c != 10)).length := by
              rw [drop_get s k hlt, ((remark_iff s k hlt).1 hr).1]
              simp
            have HS := Lib.hid (HR.out.1.remark hlt HB.out hr hm)
            generalize ((s.data.toList.drop k).takeWhile (fun c => c != 10)).length = n at HN HS hle hge
            clear hr hm
            go_wp2_with (first | (go_at_call 42; (with_reducible refine (HP.out _).mono ?_); rintro e w1 ⟨rfl, rfl⟩) | (go_at_call 43; (with_reducible refine (HN.out _).mono ?_); rintro e w1 ⟨rfl, rfl⟩))
            go_roundw
            case rel => exact ⟨k + n, acc, by go_num, by omega, by omega, HS.out, HR.out.2⟩
            case measure => simp [intOf]; omega
          · simp only [if_neg hm] at HN
            have HS := Lib.hid (HR.out.1.remarkEnd hlt HB.out hr hm)
            clear hr hm
            go_wp2_with (first | (go_at_call 42; (with_reducible refine (HP.out _).mono ?_); rintro e w1 ⟨rfl, rfl⟩) | (go_at_call 43; (with_reducible refine (HN.out _).mono ?_); rintro e w1 ⟨rfl, rfl⟩))
            rw [Exit.noGoto_ret]
            go_ret2
            exact TokensPost.ok HSz.out HS.out HR.out.2.1 HR.out.2.2
        · have HP := remark_at s k false (decide_eq_false hr)
          have hT := token_any (s.extract k s.size) wr (by rw [ByteArray.size_extract]; omega) (by rw [ByteArray.size_extract]; have := HSz.out; omega) (HLd.out.of_below HR.out.2.2)
          unfold TokPost at hT
          rw [extract_from] at hT
          simp only [tokV] at hT
          have t5 : ((s[k].toNat : Int) == 45) = true ∨ ((s[k].toNat : Int) == 45) = false := by
            cases ((s[k].toNat : Int) == 45) with
            | true => exact .inl rfl
            | false => exact .inr rfl
          rcases ht : Lex.tok (s.data.toList.drop k) with _ | ⟨t, m⟩
          · rw [ht] at hT
            have HT := Lib.hid hT
            have HS := Lib.hid (HR.out.1.bad hlt HB.out hr ht)
            clear hT ht hr
            rcases t5 with t5 | t5
            all_goals
              go_wp2_with (first | (go_at_call 42; (with_reducible refine (HP.out _).mono ?_); rintro e w1 ⟨rfl, rfl⟩) | (go_at_call 44; (with_reducible refine HT.out.mono ?_); rintro e w1 ⟨⟨t, rfl⟩, h2⟩; have H2 := Lib.hid h2; clear h2))
              rw [Exit.noGoto_ret]
              go_ret2
              have hs2 := H2.out.size
              refine TokensPost.error (p := w1.heap.size + 1) HSz.out HS.out (by omega) ?_ ?_
              · exact (two_new w1 _ _).2
              · exact ((HR.out.2.2.trans (H2.out.mono hsz)).alloc (by omega) _).alloc (by simp; omega) _
          · rw [ht] at hT
            have HT := Lib.hid hT
            have htl := Lex.tok_len ht
            rw [List.length_drop, toList_length] at htl
            have HS := Lib.hid (HR.out.1.word hlt HB.out hr ht)
            have hm0 : ((m : Int) == 0) = false := by simp; omega
            clear hT ht hr
            rcases t5 with t5 | t5
            all_goals
              go_wp2_with (first | (go_at_call 42; (with_reducible refine (HP.out _).mono ?_); rintro e w1 ⟨rfl, rfl⟩) | (go_at_call 44; (with_reducible refine HT.out.mono ?_); rintro e w1 ⟨rfl, h2⟩; have H2 := Lib.hid h2; clear h2) | (at_builtin; refine wpList_append_own _ rfl _ _ 23 rfl w.heap.size 30 i0 _ 4 40 Tryz.underlying23 hi hz0 hz1 hz2 rfl (by decide) _ _ _ rfl (((ownsRow_below HR.out.2.1 H2.out).alloc _).alloc _) ⟨w1.heap.size + 1, 0, none⟩ 1 1 [.int .i64 t.kind, .string ⟨t.text.toArray⟩, .int .i64 k, .int .i64 t.int] rfl rfl ?c1 ?c2 ?c3 ?c4 ?c5 ?_))
              case c1 => exact four_cells (two_new w1 _ _).2
              case c2 => intro u hu; simp at hu; rcases hu with rfl | rfl | rfl | rfl <;> rfl
              case c3 => unfold maxLen; omega
              case c4 => omega
              case c5 => simp; have := H2.out.size; omega
              intro v' w2 hown' hgrow _
              have hs2 := H2.out.size
              have HO := Lib.hid hown'
              have HB2 : Hid (Below w.heap.size w w2) := Lib.hid ((((HR.out.2.2.trans (H2.out.mono hsz)).alloc (by omega) _).alloc (by simp; omega) _).grown hgrow (by simp; omega) (fun g hg => (HR.out.2.1.lt g hg).1))
              clear hown' hgrow
              go_wp2
              go_roundw
              case rel =>
                refine ⟨k + m, acc ++ [{ t with at_ := (k : Int) }], by go_num, by omega, by simp; omega, HS.out, ?_, HB2.out⟩
                have h := HO.out
                simpa [tokCells] using h
              case measure => simp [intOf]; omega
      · have HS := Lib.hid (HR.out.1.blank hlt hb)
        rcases blank_cases _ hb with t1 | ⟨t1, t2⟩ | ⟨t1, t2, t3⟩ | ⟨t1, t2, t3, t4⟩
        all_goals
          clear hb
          go_wp2
          go_roundw
          case rel => exact ⟨k + 1, acc, by go_num, by omega, by omega, HS.out, HR.out.2⟩
          case measure => simp [intOf]; omega
    · have HS := Lib.hid (HR.out.1.done (by omega))
      go_wp2
      rw [Exit.noGoto_ret]
      go_ret2
      exact TokensPost.ok HSz.out HS.out HR.out.2.1 HR.out.2.2
end Go.Proofs.YtgidnbkbmjjihaaGreatDoor
