/- The words of a text, walked: the loop over the text, against the plain scan. -/
import Derived.Test.YtgidnbkbmjjihaaGreatDoorLexK
import Derived.Maps.AppendAt
import Derived.Deep.AppendLies
import Derived.Deep.LoopGhost
namespace Go.Proofs.YtgidnbkbmjjihaaGreatDoor
open Go.RowKit

theorem indexByte_eq (x : UInt8) (l : List UInt8) : Lib.indexByte l x = if x ∈ l then ((l.takeWhile (fun c => c != x)).length : Int) else -1 := by
  induction l with
  | nil => simp [Lib.indexByte]
  | cons a l ih =>
    simp only [Lib.indexByte, ih, List.mem_cons, List.takeWhile_cons]
    by_cases ha : a = x
    · simp [ha]
    · have ha' : ¬ x = a := fun e => ha e.symm
      have hb : (a == x) = false := by simpa using ha
      have hb2 : (a != x) = true := by simpa using ha
      rw [hb, hb2]
      by_cases hm : x ∈ l
      · simp only [hm, if_true, or_true, List.length_cons]
        rw [if_neg (by simp), if_neg (by simp)]
        push_cast
        rfl
      · simp [hm, ha']

def tokCells (t : Lex.Tok) : List Value := [.int .i64 t.kind, .string ⟨t.text.toArray⟩, .int .i64 t.at_, .int .i64 t.int]

/-- How the words of the whole text hang on those from a place on. -/
def ScanAt (s : ByteArray) (k : Nat) (acc : List Lex.Tok) : Prop :=
  Lex.scanAll 0 s.data.toList = (Lex.scanAll k (s.data.toList.drop k)).map fun l => acc ++ l

theorem ScanAt.start (s : ByteArray) : ScanAt s 0 [] := by
  unfold ScanAt
  rw [List.drop_zero]
  cases Lex.scanAll 0 s.data.toList <;> simp [Except.map]

theorem ScanAt.blank {s : ByteArray} {k : Nat} {acc : List Lex.Tok} (h : ScanAt s k acc) (hk : k < s.size) (hb : Lex.isBlank s[k] = true) : ScanAt s (k + 1) acc := by
  unfold ScanAt at *
  rw [h, drop_get s k hk, Lex.scanAll_cons, if_pos hb]

theorem drop_takeWhile (l : List UInt8) (p : UInt8 → Bool) : l.dropWhile p = l.drop (l.takeWhile p).length := by
  have h1 := List.takeWhile_append_dropWhile (p := p) (l := l)
  have h2 := List.drop_left (l₁ := l.takeWhile p) (l₂ := l.dropWhile p)
  rw [h1] at h2
  exact h2.symm

def isRemark (l : List UInt8) : Prop := l.head? = some 45 ∧ (l.drop 1).head? = some 45
instance (l : List UInt8) : Decidable (isRemark l) := inferInstanceAs (Decidable (_ ∧ _))

theorem remark_iff (s : ByteArray) (k : Nat) (hk : k < s.size) : isRemark (s.data.toList.drop k) ↔ (s[k] = 45 ∧ (s.data.toList.drop (k + 1)).head? = some 45) := by
  unfold isRemark
  rw [drop_get s k hk]
  simp

theorem ScanAt.remark {s : ByteArray} {k : Nat} {acc : List Lex.Tok} (h : ScanAt s k acc) (hk : k < s.size) (hb : Lex.isBlank s[k] = false) (hr : isRemark (s.data.toList.drop k)) (hm : 10 ∈ s.data.toList.drop k) :
    ScanAt s (k + ((s.data.toList.drop k).takeWhile (fun x => x != 10)).length) acc := by
  have hr2 := (remark_iff s k hk).1 hr
  unfold ScanAt at *
  rw [h]
  have e := drop_get s k hk
  rw [← List.drop_drop, ← drop_takeWhile]
  rw [e] at hm ⊢
  rw [Lex.scanAll_cons, if_neg (by simp [hb]), if_pos hr2, if_pos hm]

theorem ScanAt.remarkEnd {s : ByteArray} {k : Nat} {acc : List Lex.Tok} (h : ScanAt s k acc) (hk : k < s.size) (hb : Lex.isBlank s[k] = false) (hr : isRemark (s.data.toList.drop k)) (hm : ¬ 10 ∈ s.data.toList.drop k) :
    Lex.scanAll 0 s.data.toList = .ok acc := by
  have hr2 := (remark_iff s k hk).1 hr
  unfold ScanAt at *
  rw [h]
  have e := drop_get s k hk
  rw [e] at hm ⊢
  rw [Lex.scanAll_cons, if_neg (by simp [hb]), if_pos hr2, if_neg hm]
  simp [Except.map]

theorem ScanAt.bad {s : ByteArray} {k : Nat} {acc : List Lex.Tok} (h : ScanAt s k acc) (hk : k < s.size) (hb : Lex.isBlank s[k] = false) (hr : ¬ isRemark (s.data.toList.drop k)) (ht : Lex.tok (s.data.toList.drop k) = none) :
    Lex.scanAll 0 s.data.toList = .error k := by
  have hr2 := mt (remark_iff s k hk).2 hr
  unfold ScanAt at *
  rw [h]
  rw [drop_get s k hk] at ht ⊢
  rw [Lex.scanAll_cons, if_neg (by simp [hb]), if_neg hr2, ht]
  rfl

theorem ScanAt.word {s : ByteArray} {k : Nat} {acc : List Lex.Tok} (h : ScanAt s k acc) (hk : k < s.size) (hb : Lex.isBlank s[k] = false) (hr : ¬ isRemark (s.data.toList.drop k)) {t : Lex.Tok} {m : Nat} (ht : Lex.tok (s.data.toList.drop k) = some (t, m)) :
    ScanAt s (k + m) (acc ++ [{ t with at_ := k }]) := by
  have hr2 := mt (remark_iff s k hk).2 hr
  unfold ScanAt at *
  rw [h, ← List.drop_drop]
  rw [drop_get s k hk] at ht ⊢
  rw [Lex.scanAll_cons, if_neg (by simp [hb]), if_neg hr2, ht]
  simp only []
  cases Lex.scanAll (k + m) (List.drop m (s[k] :: List.drop (k + 1) s.data.toList)) <;> simp [Except.map]

theorem ScanAt.done {s : ByteArray} {acc : List Lex.Tok} {k : Nat} (h : ScanAt s k acc) (hk : s.size ≤ k) : Lex.scanAll 0 s.data.toList = .ok acc := by
  unfold ScanAt at h
  rw [h, List.drop_of_length_le (by rw [toList_length]; exact hk), Lex.scanAll_nil]
  simp [Except.map]

/-- What Tokens answers. -/
def TokensPost (s : ByteArray) (w : World) (e : Ending) (w' : World) : Prop :=
  (match Lex.tokens s.data.toList with
    | .error (n, er) => ∃ p, e = .returned (.tuple #[.slice none 0 0, .iface 94 (.pointer (some ⟨p, 0, none⟩))]) ∧ w.heap.size ≤ p ∧ w'.heap[p]? = some (.cells #[.int .i64 n, .iface 41 (.int .i64 er)] 96 (0, 0))
    | .ok l => ∃ v, e = .returned (.tuple #[v, .nilIface]) ∧ w'.ownsRow w.heap.size 30 4 v l.length (l.flatMap tokCells)) ∧ Below w.heap.size w w'

theorem TokensPost.ok {s : ByteArray} {w w' : World} {l : List Lex.Tok} {v : Value} (hs : s.size ≤ 16384) (h : Lex.scanAll 0 s.data.toList = .ok l) (ho : w'.ownsRow w.heap.size 30 4 v l.length (l.flatMap tokCells)) (hb : Below w.heap.size w w') :
    TokensPost s w (.returned (.tuple #[v, .nilIface])) w' := by
  unfold TokensPost
  rw [Lex.tokens_short (by rw [toList_length]; exact hs), h]
  exact ⟨⟨v, rfl, ho⟩, hb⟩

theorem TokensPost.error {s : ByteArray} {w w' : World} {n p : Nat} (hs : s.size ≤ 16384) (h : Lex.scanAll 0 s.data.toList = .error n) (hp : w.heap.size ≤ p)
    (hc : w'.heap[p]? = some (.cells #[.int .i64 n, .iface 41 (.int .i64 20)] 96 (0, 0))) (hb : Below w.heap.size w w') :
    TokensPost s w (.returned (.tuple #[.slice none 0 0, .iface 94 (.pointer (some ⟨p, 0, none⟩))])) w' := by
  unfold TokensPost
  rw [Lex.tokens_short (by rw [toList_length]; exact hs), h]
  exact ⟨⟨p, rfl, hp, hc⟩, hb⟩

theorem TokensPost.long {s : ByteArray} {w w' : World} {p : Nat} (hs : 16384 < s.size) (hp : w.heap.size ≤ p)
    (hc : w'.heap[p]? = some (.cells #[.int .i64 0, .iface 41 (.int .i64 8)] 96 (0, 0))) (hb : Below w.heap.size w w') :
    TokensPost s w (.returned (.tuple #[.slice none 0 0, .iface 94 (.pointer (some ⟨p, 0, none⟩))])) w' := by
  unfold TokensPost Lex.tokens
  rw [if_pos (by rw [toList_length]; exact hs)]
  exact ⟨⟨p, rfl, hp, hc⟩, hb⟩

theorem infoTok : (Tryz.prog.info? 30).map (fun i => (i.zero, i.size, i.bytes)) = some (some (.agg #[.int .i64 0, .string .empty, .int .i64 0, .int .i64 0]), 4, 40) := by kernel_rfl
end Go.Proofs.YtgidnbkbmjjihaaGreatDoor
