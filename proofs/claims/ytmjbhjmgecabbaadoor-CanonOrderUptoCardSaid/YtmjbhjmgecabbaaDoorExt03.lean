/- What canon.Canon, canon.Equal and canon.Blank answer, in the form in which the printed texts ask for it, for texts of at most 2^23 bytes. -/
import Derived.Test.YtmjbhjmgecabbaaDoorEqual
namespace Go.Proofs.YtmjbhjmgecabbaaDoor
open Go.RowKit

def canon_Canon.f (a0 : ByteArray) (a1_0 a1_1 a1_2 a1_3 a1_4 a1_5 : Bool) : Option ByteArray :=
  if a0.size ≤ 8388608 then some ⟨(canonF ⟨a1_0, a1_1, a1_2, a1_3, a1_4, a1_5⟩ a0.data.toList).toArray⟩ else none
theorem canon_Canon.calls (a0 : ByteArray) (a1_0 a1_1 a1_2 a1_3 a1_4 a1_5 : Bool) (r : ByteArray) (w : World) (h : canon_Canon.f a0 a1_0 a1_1 a1_2 a1_3 a1_4 a1_5 = some r) :
    Calls Tryd.prog 29 #[.string a0, .agg #[.bool a1_0, .bool a1_1, .bool a1_2, .bool a1_3, .bool a1_4, .bool a1_5]] w fun e w' => e = .returned (.string r) ∧ Below w.heap.size w w' := by
  unfold canon_Canon.f at h
  split at h
  · obtain rfl := Option.some.inj h
    exact canon_any a0 ⟨a1_0, a1_1, a1_2, a1_3, a1_4, a1_5⟩ w (by assumption)
  · cases h
def canon_Equal.f (a0 a1 : ByteArray) (a2_0 a2_1 a2_2 a2_3 a2_4 a2_5 : Bool) : Option Bool :=
  if a0.size ≤ 8388608 ∧ a1.size ≤ 8388608 then some (equalF ⟨a2_0, a2_1, a2_2, a2_3, a2_4, a2_5⟩ a0.data.toList a1.data.toList) else none
theorem canon_Equal.calls (a0 a1 : ByteArray) (a2_0 a2_1 a2_2 a2_3 a2_4 a2_5 : Bool) (r : Bool) (w : World) (h : canon_Equal.f a0 a1 a2_0 a2_1 a2_2 a2_3 a2_4 a2_5 = some r) :
    Calls Tryd.prog 9 #[.string a0, .string a1, .agg #[.bool a2_0, .bool a2_1, .bool a2_2, .bool a2_3, .bool a2_4, .bool a2_5]] w fun e w' => e = .returned (.bool r) ∧ Below w.heap.size w w' := by
  unfold canon_Equal.f at h
  split at h
  · rename_i hc
    obtain rfl := Option.some.inj h
    exact equal_any a0 a1 ⟨a2_0, a2_1, a2_2, a2_3, a2_4, a2_5⟩ w hc.1 hc.2
  · cases h
def canon_Blank.f (a0 : ByteArray) (a1_0 a1_1 a1_2 a1_3 a1_4 a1_5 : Bool) : Option Bool :=
  if a0.size ≤ 8388608 then some (blankF ⟨a1_0, a1_1, a1_2, a1_3, a1_4, a1_5⟩ a0.data.toList) else none
theorem canon_Blank.calls (a0 : ByteArray) (a1_0 a1_1 a1_2 a1_3 a1_4 a1_5 : Bool) (r : Bool) (w : World) (h : canon_Blank.f a0 a1_0 a1_1 a1_2 a1_3 a1_4 a1_5 = some r) :
    Calls Tryd.prog 30 #[.string a0, .agg #[.bool a1_0, .bool a1_1, .bool a1_2, .bool a1_3, .bool a1_4, .bool a1_5]] w fun e w' => e = .returned (.bool r) ∧ Below w.heap.size w w' := by
  unfold canon_Blank.f at h
  split at h
  · obtain rfl := Option.some.inj h
    exact blank_any a0 ⟨a1_0, a1_1, a1_2, a1_3, a1_4, a1_5⟩ w (by assumption)
  · cases h
end Go.Proofs.YtmjbhjmgecabbaaDoor
