/- A word as it is written: the walk of Print; and the law that words written are the same words. -/
import Derived.Test.YtgidnbkbmjjihaaGreatDoorLexX
import Derived.Deep.QuietTactic
import Derived.Deep.CutBlock
import Derived.BigQuiet
namespace Go.Proofs.YtgidnbkbmjjihaaGreatDoor
open Go.RowKit

def tokVal (t : Lex.Tok) : Value := .agg #[.int .i64 t.kind, .string ⟨t.text.toArray⟩, .int .i64 t.at_, .int .i64 t.int]

set_option maxHeartbeats 2000000 in
theorem print_any (k at_ n : Int) (s : ByteArray) (w : World) (hf : Lex.Fine 16384 ⟨k, s.data.toList, at_, n⟩) (hL : LaidT w) :
    Calls Tryz.prog 16 #[.agg #[.int .i64 k, .string s, .int .i64 at_, .int .i64 n]] w fun e w' => e = .returned (.string ⟨(Lex.printTok ⟨k, s.data.toList, at_, n⟩).toArray⟩) ∧ Below w.heap.size w w' := by
  obtain ⟨hlen, hn0, hn1, hk⟩ := hf
  simp only [] at hlen hn0 hn1 hk
  have hsz : s.size ≤ 16384 := by rw [← toList_length]; exact hlen
  have hback : (⟨s.data.toList.toArray⟩ : ByteArray) = s := rfl
  have HL := Lib.hid hL
  clear hL hlen
  rcases hk with rfl | rfl | rfl | rfl | rfl
  · have hp : Lex.printTok ⟨1, s.data.toList, at_, n⟩ = s.data.toList := by simp [Lex.printTok]
    rw [hp]
    clear hp hback
    go_enter Tryz.func16, Tryz.ntmps16
    go_wp2
    go_ret
    exact ⟨rfl, (Below.refl _ _).alloc (Nat.le_refl _) _⟩
  · have hp : Lex.printTok ⟨2, s.data.toList, at_, n⟩ = Lib.itoa n := by simp [Lex.printTok]
    rw [hp]
    have HF : ∀ o, Hid (Calls Tryz.prog 45 #[.int .i64 n, .int .i64 10] (w.alloc o) _) := fun o => Lib.hid (formatInt_any n (by omega) (by omega) (w.alloc o) (HL.out.of_below ((Below.refl _ _).alloc (Nat.le_refl _) _)))
    clear hp hback
    go_enter Tryz.func16, Tryz.ntmps16
    go_wp2_with (go_at_call 45; (with_reducible refine (HF _).out.mono ?_); rintro e w1 ⟨rfl, h1⟩; have H1 := Lib.hid h1; clear h1)
    go_ret
    exact ⟨rfl, box_below H1.out (Below.refl _ _)⟩
  · have hp : Lex.printTok ⟨3, s.data.toList, at_, n⟩ = literalOf 3 0 s := by simp [Lex.printTok, literalOf, checkV]
    rw [hp]
    have HF : ∀ o, Hid (Calls Tryz.prog 46 #[.agg #[.int .i64 3, .int .i64 0, .string s]] (w.alloc o) _) := fun o => Lib.hid (literal_any 3 0 s (w.alloc o) (fun _ => by omega) (fun h => by omega) (HL.out.of_below ((Below.refl _ _).alloc (Nat.le_refl _) _)))
    clear hp hback
    go_enter Tryz.func16, Tryz.ntmps16
    go_wp2_with (go_at_call 46; (with_reducible refine (HF _).out.mono ?_); rintro e w1 ⟨rfl, h1⟩; have H1 := Lib.hid h1; clear h1)
    go_ret
    exact ⟨rfl, box_below H1.out (Below.refl _ _)⟩
  · have hp : Lex.printTok ⟨4, s.data.toList, at_, n⟩ = literalOf 4 0 s := by simp [Lex.printTok, literalOf, checkV]
    rw [hp]
    have HF : ∀ o, Hid (Calls Tryz.prog 46 #[.agg #[.int .i64 4, .int .i64 0, .string s]] (w.alloc o) _) := fun o => Lib.hid (literal_any 4 0 s (w.alloc o) (fun _ => by omega) (fun h => by omega) (HL.out.of_below ((Below.refl _ _).alloc (Nat.le_refl _) _)))
    clear hp hback
    go_enter Tryz.func16, Tryz.ntmps16
    go_wp2_with (go_at_call 46; (with_reducible refine (HF _).out.mono ?_); rintro e w1 ⟨rfl, h1⟩; have H1 := Lib.hid h1; clear h1)
    go_ret
    exact ⟨rfl, box_below H1.out (Below.refl _ _)⟩
  · have hp : Lex.printTok ⟨5, s.data.toList, at_, n⟩ = s.data.toList := by simp [Lex.printTok]
    rw [hp]
    clear hp hback
    go_enter Tryz.func16, Tryz.ntmps16
    go_wp2
    go_ret
    exact ⟨rfl, (Below.refl _ _).alloc (Nat.le_refl _) _⟩
end Go.Proofs.YtgidnbkbmjjihaaGreatDoor
