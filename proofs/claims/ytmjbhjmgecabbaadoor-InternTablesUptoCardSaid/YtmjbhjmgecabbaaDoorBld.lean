/- A strings.Builder that the call itself has made, by what it holds as bytes: its methods' contracts. -/
import Derived.Test.YtmjbhjmgecabbaaDoorShelf2
import Derived.Test.YtmjbhjmgecabbaaDoorWMore
import Derived.WalkKit
import Derived.WalkSpells
import Derived.Lib.Hide
namespace Go.Proofs.YtmjbhjmgecabbaaDoor
open Go.RowKit YtmjbhjmgecabbaaDoorW.PrintWords

/-- Block b is a Builder that holds the bytes l; all that is its own lies from block B on. -/
def Bld (B b : Nat) (l : List UInt8) (w : World) : Prop := Lib.IsBuilderF 76 5 B b (Lib.byteCells l) w ∧ B ≤ w.heap.size
/-- what a Builder's writing leaves: all but its own block and rows of bytes -/
abbrev BKept (b : Nat) (w w' : World) : Prop := Lib.OthersKept 5 (some b) w w'
theorem Bld.fresh (w : World) : Bld w.heap.size w.heap.size [] (w.alloc (.cells #[.pointer none, .slice none 0 0] 76)) := ⟨Lib.IsBuilderF.of (Lib.fresh_isBuilder _ _ w), by simp⟩
theorem Bld.at_below {B b : Nat} {p : Value} {bs : List Value} {w w' : World} (h : Lib.BuilderAtF 76 5 B b p bs w) (hb : Below w.heap.size w w') : Lib.BuilderAtF 76 5 B b p bs w' := by
  obtain ⟨hB, v, hbk, hown, hne⟩ := h
  have hlt := (Array.getElem?_eq_some_iff.1 hbk).1
  exact ⟨hB, v, (hb.block b hlt).trans hbk, hown.kept (grown_of_below hb none) (by cases v.ownBlock <;> simp), hne⟩
/-- what only lays new blocks leaves it as it is -/
theorem Bld.below {B b : Nat} {l : List UInt8} {w w' : World} (h : Bld B b l w) (hb : Below w.heap.size w w') : Bld B b l w' :=
  ⟨h.1.elim (fun x => .inl (Bld.at_below x hb)) (fun x => .inr (Bld.at_below x hb)), Nat.le_trans h.2 hb.size⟩
theorem Bld.writeByte {B b : Nat} {l : List UInt8} {w : World} (c : UInt8) (h : Bld B b l w) (hl : l.length < 137438953472) :
    Calls Tryd.prog 56 #[.pointer (some ⟨b, 0, none⟩), .int .u8 c.toNat] w fun e w' => e = .returned .nilIface ∧ Bld B b (l ++ [c]) w' ∧ Below B w w' ∧ BKept b w w' :=
  (Tryd.Builder_WriteByte_k B b _ _ w h.1 (by rw [Lib.byteCells_length]; omega) h.2).mono fun _ _ ⟨he, ha, hb, hk⟩ => ⟨he, ⟨.inr (by rw [Lib.byteCells_append]; exact ha), Nat.le_trans h.2 hb.size⟩, hb, hk⟩
theorem Bld.writeString {B b : Nat} {l : List UInt8} {w : World} (s : ByteArray) (h : Bld B b l w) (hl : l.length < 68719476736) (hs : s.size < 68719476736) :
    Calls Tryd.prog 39 #[.pointer (some ⟨b, 0, none⟩), .string s] w fun e w' => e = .returned (.tuple #[.int .i64 s.size, .nilIface]) ∧ Bld B b (l ++ s.data.toList) w' ∧ Below B w w' ∧ BKept b w w' :=
  (Tryd.Builder_WriteString_k B b _ s w h.1 (by rw [Lib.byteCells_length]; omega) h.2).mono fun _ _ ⟨he, ha, hb, hk⟩ => ⟨he, ⟨.inr (by rw [Lib.byteCells_append]; exact ha), Nat.le_trans h.2 hb.size⟩, hb, hk⟩
theorem Bld.len {B b : Nat} {l : List UInt8} {w : World} (h : Bld B b l w) :
    Calls Tryd.prog 57 #[.pointer (some ⟨b, 0, none⟩)] w fun e w' => e = .returned (.int .i64 l.length) ∧ w = w' :=
  (Tryd.Builder_Len_f B b _ w h.1).mono fun _ _ ⟨he, hw⟩ => ⟨by rw [he, Lib.byteCells_length], hw.symm⟩
theorem Bld.string {B b : Nat} {l : List UInt8} {w : World} (h : Bld B b l w) :
    Calls Tryd.prog 42 #[.pointer (some ⟨b, 0, none⟩)] w fun e w' => e = .returned (.string ⟨l.toArray⟩) ∧ Bld B b l w' ∧ Below B w w' ∧ BKept b w w' :=
  (Tryd.Builder_String_any_k B b l w h.1 h.2).mono fun _ _ ⟨he, ha, hb, hk⟩ => ⟨he, ⟨ha, Nat.le_trans h.2 hb.size⟩, hb, hk⟩
/-- A row of a kind that is no byte lives on. -/
theorem BKept.row {b : Nat} {w w' : World} (h : BKept b w w') {k : Nat} {cs : Array Value} {e : TypeId} {fz : Nat × Nat} (hk : w.heap[k]? = some (.cells cs e fz)) (hne : k ≠ b) (he : e ≠ 5) : w'.heap[k]? = some (.cells cs e fz) :=
  h k _ hk (by simpa using hne) (fun c f hc => he (by cases hc; rfl))
end Go.Proofs.YtmjbhjmgecabbaaDoor
