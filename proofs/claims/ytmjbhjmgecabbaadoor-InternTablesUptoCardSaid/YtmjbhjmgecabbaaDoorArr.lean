/- A row of cells of the call's own that is written: what its first cells hold. -/
import Derived.Test.YtmjbhjmgecabbaaDoorWMore
import Derived.Test.YtmjbhjmgecabbaaDoorProg
import Derived.WalkKit
import Derived.WalkSpells
import Derived.Lib.Hide
import Derived.Lib.ConvBytes
import Derived.Lib.BufferMore
namespace Go.Proofs.YtmjbhjmgecabbaaDoor
open Go.RowKit YtmjbhjmgecabbaaDoorW.PrintWords

/-- Block b is a row of type e whose first cells are cs and may be written. -/
def Arr (w : World) (b : Nat) (e : TypeId) (cs : List Value) : Prop :=
  ∃ (rest : List Value) (lo hi : Nat), w.heap[b]? = some (.cells (cs ++ rest).toArray e (lo, hi)) ∧ (hi ≤ lo ∨ cs.length ≤ lo)
theorem Arr.lt {w : World} {b : Nat} {e : TypeId} {cs : List Value} (h : Arr w b e cs) : b < w.heap.size := by
  obtain ⟨_, _, _, h, _⟩ := h
  exact (Array.getElem?_eq_some_iff.1 h).1
theorem Arr.cell {w : World} {b : Nat} {e : TypeId} {cs : List Value} (h : Arr w b e cs) (i : Nat) {v : Value} (hi : cs[i]? = some v) : w.cell? ⟨b, i, none⟩ = some v := by
  obtain ⟨rest, lo, hi', h, _⟩ := h
  have hl := (List.getElem?_eq_some_iff.1 hi).1
  simp only [World.cell?, h, Option.isSome_none, Bool.false_eq_true, if_false, List.getElem?_toArray]
  rw [List.getElem?_append_left hl, hi]
theorem Arr.free {w : World} {b : Nat} {e : TypeId} {cs : List Value} (h : Arr w b e cs) (i : Nat) (hi : i < cs.length) : w.frozen? ⟨b, i, none⟩ = false := by
  obtain ⟨rest, lo, hi', h, hf⟩ := h
  simp only [World.frozen?, h, Bool.and_eq_false_iff, decide_eq_false_iff_not]
  omega
theorem Arr.set {w : World} {b : Nat} {e : TypeId} {cs : List Value} (h : Arr w b e cs) (i : Nat) (v : Value) (hi : i < cs.length) : Arr (w.setCell ⟨b, i, none⟩ v) b e (cs.set i v) := by
  obtain ⟨rest, lo, hi', h, hf⟩ := h
  refine ⟨rest, lo, hi', ?_, by simpa using hf⟩
  rw [Lib.heap_setCell_same h]
  simp [hi]
theorem Arr.heap {w w' : World} {b : Nat} {e : TypeId} {cs : List Value} (h : Arr w b e cs) (hb : w'.heap[b]? = w.heap[b]?) : Arr w' b e cs := by
  obtain ⟨rest, lo, hi', h, hf⟩ := h
  exact ⟨rest, lo, hi', hb.trans h, hf⟩
theorem Arr.below {w w' : World} {b : Nat} {e : TypeId} {cs : List Value} (h : Arr w b e cs) (hb : Below w.heap.size w w') : Arr w' b e cs := h.heap (hb.block b h.lt)
theorem Arr.drewN {w : World} {b : Nat} {e : TypeId} {cs : List Value} (h : Arr w b e cs) (n : Nat) : Arr (w.drewN n) b e cs := h
theorem Arr.other {w : World} {b : Nat} {e : TypeId} {cs : List Value} (h : Arr w b e cs) (a : Addr) (v : Value) (hne : b ≠ a.block) : Arr (w.setCell a v) b e cs := h.heap (Below.heap_setCell w a v b hne)
theorem Arr.bytes (w : World) (s : ByteArray) : Arr (Lib.bytesWorld w 5 s) w.heap.size 5 (s.data.toList.map fun b => .int .u8 b.toNat) := by
  have h := Lib.bytesWorld_at_new w 5 s
  have e : Lib.bytesCells w 5 s = ((s.data.toList.map fun b : UInt8 => Value.int .u8 b.toNat) ++ List.replicate (grownCap w s.size 0 5 - s.size) (Value.int .u8 0)).toArray := by
    simp [Lib.bytesCells]
  have hn : (s.data.toList.map fun b : UInt8 => Value.int .u8 b.toNat).length ≤ (Lib.bytesCells w 5 s).size := by simp [Lib.bytesCells]
  generalize (Lib.bytesCells w 5 s).size = m at *
  rw [e] at h
  exact ⟨_, _, _, h, .inr hn⟩
theorem bytes_below (w : World) (s : ByteArray) : Below w.heap.size w (Lib.bytesWorld w 5 s) := by
  have h : (Lib.bytesWorld w 5 s).heap.size = w.heap.size + 1 := Lib.bytesWorld_size w _ s
  exact ⟨rfl, rfl, rfl, by omega, fun i hi => Lib.bytesWorld_at_old w _ s i hi⟩
theorem strOfNums_bytes (l : List UInt8) : strOfNums (l.map fun b => (b.toNat : Int)) = ⟨l.toArray⟩ := by
  unfold strOfNums
  rw [List.map_map, show ((fun n : Int => UInt8.ofNat n.toNat) ∘ fun b : UInt8 => (b.toNat : Int)) = id from funext fun b => by simp, List.map_id]
/-- string(b), b's cells known. -/
theorem Arr.toString {w : World} {b n c : Nat} {l : List UInt8} (h : Arr w b 5 (l.map fun b => .int .u8 b.toNat)) (hn : l.length = n) (hm : n ≤ 9223372036854775807) :
    (convert 74 9 (.slice (some ⟨b, 0, none⟩) n c)).run Tryd.prog w = .ok (.string ⟨l.toArray⟩) w := by
  have hr : ReadsInt w .u8 (some ⟨b, 0, none⟩) n (l.map fun b => (b.toNat : Int)) := by
    refine ⟨by simpa using hn, hm, fun _ => ⟨_, rfl, fun j hj => ?_⟩⟩
    rw [add_plain]
    refine h.cell j ?_
    simp [List.getD, List.getElem?_eq_getElem (show j < l.length by omega)]
  rw [string_of_reads Tryd.underlying74 Tryd.underlying5 Tryd.underlying9 hr, strOfNums_bytes]
end Go.Proofs.YtmjbhjmgecabbaaDoor
