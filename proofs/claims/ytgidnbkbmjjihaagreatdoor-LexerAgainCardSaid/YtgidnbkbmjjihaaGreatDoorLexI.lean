/- The token at the front, walked: one theorem for each kind of token. -/
import Derived.Test.YtgidnbkbmjjihaaGreatDoorLexH
import Derived.RegionTactic
import Derived.ChangeAlike
import Derived.Laws.ResultCell
namespace Go.Proofs.YtgidnbkbmjjihaaGreatDoor
open Go.RowKit

theorem bcell {W w1 : World} (hb : Below W.heap.size W w1) : (∀ b o, b < W.heap.size → w1.cell? ⟨b, o, none⟩ = W.cell? ⟨b, o, none⟩) ∧ (∀ b o, b < W.heap.size → w1.frozen? ⟨b, o, none⟩ = W.frozen? ⟨b, o, none⟩) :=
  ⟨fun _ _ h => hb.cell h, fun _ _ h => hb.frozen h⟩

theorem two_new (w : World) (o1 o2 : Obj) : ((w.alloc o1).alloc o2).heap[w.heap.size]? = some o1 ∧ ((w.alloc o1).alloc o2).heap[w.heap.size + 1]? = some o2 := by
  constructor
  · rw [Below.heap_alloc _ _ _ (by simp)]; exact heap_alloc_new w o1
  · have := heap_alloc_new (w.alloc o1) o2
    simpa using this

theorem load_tok {W : World} {g : Nat} {a b c d : Value} (h : W.heap[g]? = some (.cells #[a, b, c, d] 30 (0, 0))) : (loadVar 30 ⟨g, 0, none⟩).run Tryz.prog W = .ok (.agg #[a, b, c, d]) W := by
  have h0 : W.cell? ⟨g, 0, none⟩ = some a := by simp [World.cell?, h]
  have h1 : W.cell? ⟨g, 1, none⟩ = some b := by simp [World.cell?, h]
  have h2 : W.cell? ⟨g, 2, none⟩ = some c := by simp [World.cell?, h]
  have h3 : W.cell? ⟨g, 3, none⟩ = some d := by simp [World.cell?, h]
  simp [go_sem, h0, h1, h2, h3]

theorem tok_ret {R : Ending → World → Prop} {a : Act} {W : World} {g : Nat} {c0 c1 c2 c3 : Value} {n : Int} (h2 : a.tmps.getD 2 undef = .pointer (some ⟨g, 0, none⟩)) (h3 : a.tmps.getD 3 undef = .int .i64 n) (hd : a.defers = [])
    (hW : W.heap[g]? = some (.cells #[c0, c1, c2, c3] 30 (0, 0))) (hR : R (.returned (.tuple #[.agg #[c0, c1, c2, c3], .int .i64 n])) W) : bodyPost Tryz.prog Tryz.f44 R .ret a W := by
  refine bodyPost_ret (v := .tuple #[.agg #[c0, c1, c2, c3], .int .i64 n]) ?_ hd hR
  rw [results_cell_tmp (fn := Tryz.f44) rfl, h2, h3]
  have e : (asAddr (.pointer (some ⟨g, 0, none⟩))).run Tryz.prog W = .ok ⟨g, 0, none⟩ W := rfl
  rw [e]
  simp only [Result.andThen]
  rw [load_tok hW]

def tokV (t : Lex.Tok) : Value := .agg #[.int .i64 t.kind, .string ⟨t.text.toArray⟩, .int .i64 t.at_, .int .i64 t.int]

/-- What token answers. -/
def TokPost (s : ByteArray) (w : World) (e : Ending) (w' : World) : Prop :=
  (match Lex.tok s.data.toList with
    | some (t, n) => e = .returned (.tuple #[tokV t, .int .i64 n])
    | none => ∃ t, e = .returned (.tuple #[tokV t, .int .i64 0])) ∧ Below w.heap.size w w'

theorem letter_at (c : UInt8) (b : Bool) (h : Lex.isLetter c = b) : Hid (∀ W : World, Calls Tryz.prog 95 #[.int .u8 c.toNat] W fun e w' => e = .returned (.bool b) ∧ W = w') := by
  subst h; exact Lib.hid (letter_any c)
theorem digit_at (c : UInt8) (b : Bool) (h : Lex.isDigit c = b) : Hid (∀ W : World, Calls Tryz.prog 98 #[.int .u8 c.toNat] W fun e w' => e = .returned (.bool b) ∧ W = w') := by
  subst h; exact Lib.hid (digit_any c)

set_option maxHeartbeats 2000000 in
/-- A quoted text. -/
theorem token_text (s : ByteArray) (w : World) (h1 : 1 ≤ s.size) (hs : s.size ≤ 16384) (hc : s[0] = 39) :
    Calls Tryz.prog 44 #[.string s] w fun e w' => e = .returned (.tuple #[tokV ⟨3, (textAns s).1, 0, 0⟩, .int .i64 (textAns s).2]) ∧ Below w.heap.size w w' := by
  have HL := letter_at s[0] false (by rw [hc]; decide)
  have HD := digit_at s[0] false (by rw [hc]; decide)
  have HT := Lib.hid (text_any s · h1 hs)
  have t1 : ((s[0].toNat : Int) == 120) = false := by rw [hc]; rfl
  have t2 : ((s[0].toNat : Int) == 88) = false := by rw [hc]; rfl
  have t3 : ((s[0].toNat : Int) == 39) = true := by rw [hc]; rfl
  clear hc
  go_enter Tryz.func44, Tryz.ntmps44
  go_wp2_with (first | (go_at_call 95; (with_reducible refine (HL.out _).mono ?_); rintro e w1 ⟨rfl, rfl⟩) | (go_at_call 98; (with_reducible refine (HD.out _).mono ?_); rintro e w1 ⟨rfl, rfl⟩) | (go_at_call 101; (with_reducible refine (HT.out _).mono ?_); rintro e w1 ⟨rfl, h2⟩; obtain ⟨hcl, hfz⟩ := bcell h2; have H2 := Lib.hid h2; clear h2))
  have hb := (two_new w (.cells #[.int .i64 0, .string ⟨#[]⟩, .int .i64 0, .int .i64 0] 30) (.cells #[.int .i64 3, .string ⟨#[]⟩, .int .i64 0, .int .i64 0] 30)).1
  rw [← H2.out.block _ (by simp; omega)] at hb
  refine tok_ret (g := w.heap.size) rfl rfl rfl ?_ ⟨rfl, ?_⟩
  · simp [World.setCell, Array.getElem?_modify, hb]
  · repeat refine Below.setCell ?_ (by simp) _
    exact (((Below.refl _ _).alloc (Nat.le_refl _) _).alloc (by simp) _).trans (H2.out.mono (by simp; omega))

theorem foldl_ge (l : List UInt8) (a : Nat) : a ≤ l.foldl (fun n c => n * 10 + (c.toNat - 48)) a := by
  induction l generalizing a with
  | nil => exact Nat.le_refl _
  | cons c l ih =>
    have h := ih (a * 10 + (c.toNat - 48))
    rw [List.foldl_cons]
    omega

theorem parseUintM_digits (M : Nat) (hM : M ≤ 18446744073709551615) (l : List UInt8) (hl : ∀ c ∈ l, Lex.isDigit c = true) (a : Nat) :
    Lib.parseUintM M a l = if l.foldl (fun n c => n * 10 + (c.toNat - 48)) a ≤ M ∨ l = [] then .ok (l.foldl (fun n c => n * 10 + (c.toNat - 48)) a) else .range := by
  induction l generalizing a with
  | nil => simp [Lib.parseUintM]
  | cons c l ih =>
    have hc := hl c (by simp)
    simp only [Lex.isDigit, Bool.and_eq_true, decide_eq_true_eq] at hc
    simp only [Lib.parseUintM, List.foldl_cons, reduceCtorEq, or_false]
    rw [if_pos hc]
    have hge := foldl_ge l (a * 10 + (c.toNat - 48))
    by_cases h1 : 1844674407370955162 ≤ a
    · rw [if_pos h1, if_neg (by omega)]
    · rw [if_neg h1]
      by_cases h2 : M < a * 10 + (c.toNat - 48)
      · rw [if_pos h2, if_neg (by omega)]
      · rw [if_neg h2, ih (fun x hx => hl x (by simp [hx]))]
        by_cases h3 : l = []
        · subst h3; rw [if_pos (.inr rfl), if_pos (by simp only [List.foldl_nil]; omega)]
        · simp [h3]

theorem parse_digits (l : List UInt8) (hl : ∀ c ∈ l, Lex.isDigit c = true) (hne : l ≠ []) :
    Lib.parseIntB 64 l = if Lex.numOf l < 9223372036854775808 then .ok (Lex.numOf l) else .range := by
  cases l with
  | nil => exact absurd rfl hne
  | cons c r =>
    have hc := hl c (by simp)
    simp only [Lex.isDigit, Bool.and_eq_true, decide_eq_true_eq] at hc
    have h45 : ¬ c.toNat = 45 := by omega
    have h43 : ¬ c.toNat = 43 := by omega
    simp only [Lib.parseIntB, h45, h43, or_self, if_false, Lib.parseUintB, reduceCtorEq]
    rw [parseUintM_digits (2 ^ 64 - 1) (by decide) (c :: r) hl 0]
    simp only [reduceCtorEq, or_false]
    have e : (c :: r).foldl (fun n c => n * 10 + (c.toNat - 48)) 0 = Lex.numOf (c :: r) := rfl
    rw [e]
    by_cases h : Lex.numOf (c :: r) < 9223372036854775808
    · rw [if_pos h, if_pos (by omega)]
      simp only [not_false_eq_true, true_and, false_and, if_false]
      rw [if_neg (by omega)]
    · rw [if_neg h]
      by_cases h2 : Lex.numOf (c :: r) ≤ 2 ^ 64 - 1
      · rw [if_pos h2]
        simp only [not_false_eq_true, true_and]
        rw [if_pos (by omega)]
      · rw [if_neg h2]
end Go.Proofs.YtgidnbkbmjjihaaGreatDoor
