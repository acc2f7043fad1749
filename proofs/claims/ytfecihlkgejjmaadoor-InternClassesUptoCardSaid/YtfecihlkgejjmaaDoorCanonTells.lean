/- The walk of the law CanonTells: canon's Equal and Blank answer as the reference's, for texts of at most 2^23 bytes. -/
import Derived.Test.YtfecihlkgejjmaaDoorRef03
namespace Go.Proofs.YtfecihlkgejjmaaDoor
open Go.RowKit YtfecihlkgejjmaaDoorW.PrintWords

theorem refEqual_any (a b : ByteArray) (o : Ign) (w : World) (ha : a.size ≤ 8388608) (hb : b.size ≤ 8388608) :
    Calls Tryd.prog 13 #[.string a, .string b, .agg #[.bool o.space, .bool o.white, .bool o.blank, .bool o.case_, .bool o.tabs, .bool o.trail]] w fun e w' => e = .returned (.bool (equalF o a.data.toList b.data.toList)) ∧ Below w.heap.size w w' := by
  obtain ⟨k, hk⟩ := ref_equal a b o ha hb
  exact R03.redlineref03_Equal.calls k a b o.space o.white o.blank o.case_ o.tabs o.trail _ w hk
theorem refBlank_any (s : ByteArray) (o : Ign) (w : World) (hs : s.size ≤ 8388608) :
    Calls Tryd.prog 15 #[.string s, .agg #[.bool o.space, .bool o.white, .bool o.blank, .bool o.case_, .bool o.tabs, .bool o.trail]] w fun e w' => e = .returned (.bool (blankF o s.data.toList)) ∧ Below w.heap.size w w' := by
  obtain ⟨k, hk⟩ := ref_blank s o hs
  exact R03.redlineref03_Blank.calls k s o.space o.white o.blank o.case_ o.tabs o.trail _ w hk
set_option maxHeartbeats 4000000 in
theorem canonTells_walk (a b : ByteArray) (o : Ign) (w : World) (ha : a.size ≤ 8388608) (hb : b.size ≤ 8388608) :
    Calls Tryd.prog 3 #[.string a, .string b, .agg #[.bool o.space, .bool o.white, .bool o.blank, .bool o.case_, .bool o.tabs, .bool o.trail]] w fun e w' => e = .returned (.bool true) ∧ Below w.heap.size w w' := by
  go_enter Tryd.func3, Tryd.ntmps3
  go_wp2_with fail
  have hS : IgnS o w (w.alloc (.cells #[.bool o.space, .bool o.white, .bool o.blank, .bool o.case_, .bool o.tabs, .bool o.trail] 23)) := ⟨alloc_new _ _, (Below.refl _ _).alloc (Nat.le_refl _) _⟩
  generalize w.alloc (.cells #[.bool o.space, .bool o.white, .bool o.blank, .bool o.case_, .bool o.tabs, .bool o.trail] 23) = W at *
  have k0 : ∀ w', IgnS o w w' → w'.cell? ⟨w.heap.size, 0, none⟩ = some (.bool o.space) := fun w' h => h.1.cell 0
  have k1 : ∀ w', IgnS o w w' → w'.cell? ⟨w.heap.size, 1, none⟩ = some (.bool o.white) := fun w' h => h.1.cell 1
  have k2 : ∀ w', IgnS o w w' → w'.cell? ⟨w.heap.size, 2, none⟩ = some (.bool o.blank) := fun w' h => h.1.cell 2
  have k3 : ∀ w', IgnS o w w' → w'.cell? ⟨w.heap.size, 3, none⟩ = some (.bool o.case_) := fun w' h => h.1.cell 3
  have k4 : ∀ w', IgnS o w w' → w'.cell? ⟨w.heap.size, 4, none⟩ = some (.bool o.tabs) := fun w' h => h.1.cell 4
  have k5 : ∀ w', IgnS o w w' → w'.cell? ⟨w.heap.size, 5, none⟩ = some (.bool o.trail) := fun w' h => h.1.cell 5
  go_region_held3 (fun w' => IgnS o w w') (first | exact IgnS.keep (by assumption) (by assumption) | exact IgnS.keepD (by assumption)) (first | (go_at_call 12; (with_reducible refine (equal_any a b o _ ha hb).mono ?_); rintro e w1 ⟨rfl, hb1⟩) | (go_at_call 13; (with_reducible refine (refEqual_any a b o _ ha hb).mono ?_); rintro e w1 ⟨rfl, hb1⟩) | (go_at_call 14; (with_reducible refine (blank_any a o _ ha).mono ?_); rintro e w1 ⟨rfl, hb1⟩) | (go_at_call 15; (with_reducible refine (refBlank_any a o _ ha).mono ?_); rintro e w1 ⟨rfl, hb1⟩))
  go_wp2_with fail
  go_ret
  exact ⟨rfl, IgnS.below (o := o) (by assumption)⟩
end Go.Proofs.YtfecihlkgejjmaaDoor
