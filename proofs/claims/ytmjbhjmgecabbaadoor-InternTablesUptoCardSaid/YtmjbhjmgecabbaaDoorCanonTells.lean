/- The walk of the law CanonTells: canon's Equal and Blank answer as the reference's, for texts of at most 2^23 bytes. -/
import Derived.Test.YtmjbhjmgecabbaaDoorRef03
namespace Go.Proofs.YtmjbhjmgecabbaaDoor
open Go.RowKit YtmjbhjmgecabbaaDoorW.PrintWords

theorem refEqual_any (a b : ByteArray) (o : Ign) (w : World) (ha : a.size ≤ 8388608) (hb : b.size ≤ 8388608) :
    Calls Tryd.prog 31 #[.string a, .string b, .agg #[.bool o.space, .bool o.white, .bool o.blank, .bool o.case_, .bool o.tabs, .bool o.trail]] w fun e w' => e = .returned (.bool (equalF o a.data.toList b.data.toList)) ∧ Below w.heap.size w w' := by
  obtain ⟨k, hk⟩ := ref_equal a b o ha hb
  exact R03.redlineref03_Equal.calls k a b o.space o.white o.blank o.case_ o.tabs o.trail _ w hk
end Go.Proofs.YtmjbhjmgecabbaaDoor
