import Derived.Test.YtmjbhjmgecabbaaDoorR03x0
import Derived.Test.YtmjbhjmgecabbaaDoorR03x1
import Derived.Test.YtmjbhjmgecabbaaDoorR03x2
namespace Go.Proofs.YtmjbhjmgecabbaaDoor.R03
open Go.RowKit Go.Proofs.YtmjbhjmgecabbaaDoorW.PrintWords Go.Proofs.YtmjbhjmgecabbaaDoorW.PrintLast Go.Proofs.YtmjbhjmgecabbaaDoorW.PrintMore
attribute [local go_sem] max2_int min2_int max_two min_two max_three min_three max_four min_four   -- for this text's walks alone
set_option linter.unusedVariables false
set_option linter.unusedSimpArgs false

/-! ### redlineref03_text: function 76 -/
mutual
def redlineref03_text.j0 : Nat → ByteArray → Bool → Bool → Bool → Bool → Bool → Bool → Option (ByteArray)
  | 0, _, _, _, _, _, _, _ => none
  | k + 1, x0, x147000, x147001, x147002, x147003, x147004, x147005 => if x147001 = true then ((redlineref03_without.f k x0 false).bind fun t148 => (redlineref03_text.j1 k t148 x147000 x147001 x147002 x147003 x147004 x147005)) else (redlineref03_text.j1 k x0 x147000 x147001 x147002 x147003 x147004 x147005)
def redlineref03_text.j1 : Nat → ByteArray → Bool → Bool → Bool → Bool → Bool → Bool → Option (ByteArray)
  | 0, _, _, _, _, _, _, _ => none
  | k + 1, x0, x147000, x147001, x147002, x147003, x147004, x147005 => if x147000 = true then ((redlineref03_without.f k x0 true).bind fun t149 => ((redlineref03_trail.f k t149).bind fun t150 => (redlineref03_text.j2 k t150 x147000 x147001 x147002 x147003 x147004 x147005))) else (redlineref03_text.j2 k x0 x147000 x147001 x147002 x147003 x147004 x147005)
def redlineref03_text.j2 : Nat → ByteArray → Bool → Bool → Bool → Bool → Bool → Bool → Option (ByteArray)
  | 0, _, _, _, _, _, _, _ => none
  | k + 1, x0, x147000, x147001, x147002, x147003, x147004, x147005 => if x147005 = true then ((redlineref03_trail.f k x0).bind fun t151 => (if x147003 = true then ((redlineref03_small.f k t151).bind fun t152 => (some t152)) else (some t151))) else (if x147003 = true then ((redlineref03_small.f k x0).bind fun t153 => (some t153)) else (some x0))
end
def redlineref03_text.f (k : Nat) (a0 : ByteArray) (a1_0 : Bool) (a1_1 : Bool) (a1_2 : Bool) (a1_3 : Bool) (a1_4 : Bool) (a1_5 : Bool) : Option (ByteArray) := if a1_4 = true then ((redlineref03_Expand.f k a0).bind fun t147 => (redlineref03_text.j0 k t147 a1_0 a1_1 a1_2 a1_3 a1_4 a1_5)) else (redlineref03_text.j0 k a0 a1_0 a1_1 a1_2 a1_3 a1_4 a1_5)
theorem redlineref03_text.mono_l : ∀ k, (∀ y0 y1 y2 y3 y4 y5 y6, LeO (redlineref03_text.j0 k y0 y1 y2 y3 y4 y5 y6) (redlineref03_text.j0 (k + 1) y0 y1 y2 y3 y4 y5 y6)) ∧ (∀ y0 y1 y2 y3 y4 y5 y6, LeO (redlineref03_text.j1 k y0 y1 y2 y3 y4 y5 y6) (redlineref03_text.j1 (k + 1) y0 y1 y2 y3 y4 y5 y6)) ∧ (∀ y0 y1 y2 y3 y4 y5 y6, LeO (redlineref03_text.j2 k y0 y1 y2 y3 y4 y5 y6) (redlineref03_text.j2 (k + 1) y0 y1 y2 y3 y4 y5 y6))
  | 0 => ⟨fun _ _ _ _ _ _ _ r h => by simp [redlineref03_text.j0] at h, fun _ _ _ _ _ _ _ r h => by simp [redlineref03_text.j1] at h, fun _ _ _ _ _ _ _ r h => by simp [redlineref03_text.j2] at h⟩
  | k + 1 => by
    obtain ⟨ih0, ih1, ih2⟩ := redlineref03_text.mono_l k
    refine ⟨?_, ?_, ?_⟩
    · intro y0 y1 y2 y3 y4 y5 y6
      unfold redlineref03_text.j0
      repeat' first
      | (with_reducible exact ih0 _ _ _ _ _ _ _)
      | (with_reducible exact ih1 _ _ _ _ _ _ _)
      | (with_reducible exact ih2 _ _ _ _ _ _ _)
      | (with_reducible exact redlineref03_Expand.mono _ _)
      | (with_reducible exact redlineref03_small.mono _ _)
      | (with_reducible exact redlineref03_trail.mono _ _)
      | (with_reducible exact redlineref03_without.mono _ _ _)
      | (with_reducible exact LeO.refl _)
      | (with_reducible exact LeO.none _)
      | (with_reducible refine LeO.ite ?_ ?_)
      | (with_reducible refine LeO.bind ?_ (fun _ => ?_))
      | exact ih0 _ _ _ _ _ _ _
      | exact ih1 _ _ _ _ _ _ _
      | exact ih2 _ _ _ _ _ _ _
      | exact redlineref03_Expand.mono _ _
      | exact redlineref03_small.mono _ _
      | exact redlineref03_trail.mono _ _
      | exact redlineref03_without.mono _ _ _
      | exact LeO.none _
      | refine LeO.ite ?_ ?_
      | refine LeO.bind ?_ (fun _ => ?_)
    · intro y0 y1 y2 y3 y4 y5 y6
      unfold redlineref03_text.j1
      repeat' first
      | (with_reducible exact ih0 _ _ _ _ _ _ _)
      | (with_reducible exact ih1 _ _ _ _ _ _ _)
      | (with_reducible exact ih2 _ _ _ _ _ _ _)
      | (with_reducible exact redlineref03_Expand.mono _ _)
      | (with_reducible exact redlineref03_small.mono _ _)
      | (with_reducible exact redlineref03_trail.mono _ _)
      | (with_reducible exact redlineref03_without.mono _ _ _)
      | (with_reducible exact LeO.refl _)
      | (with_reducible exact LeO.none _)
      | (with_reducible refine LeO.ite ?_ ?_)
      | (with_reducible refine LeO.bind ?_ (fun _ => ?_))
      | exact ih0 _ _ _ _ _ _ _
      | exact ih1 _ _ _ _ _ _ _
      | exact ih2 _ _ _ _ _ _ _
      | exact redlineref03_Expand.mono _ _
      | exact redlineref03_small.mono _ _
      | exact redlineref03_trail.mono _ _
      | exact redlineref03_without.mono _ _ _
      | exact LeO.none _
      | refine LeO.ite ?_ ?_
      | refine LeO.bind ?_ (fun _ => ?_)
    · intro y0 y1 y2 y3 y4 y5 y6
      unfold redlineref03_text.j2
      repeat' first
      | (with_reducible exact ih0 _ _ _ _ _ _ _)
      | (with_reducible exact ih1 _ _ _ _ _ _ _)
      | (with_reducible exact ih2 _ _ _ _ _ _ _)
      | (with_reducible exact redlineref03_Expand.mono _ _)
      | (with_reducible exact redlineref03_small.mono _ _)
      | (with_reducible exact redlineref03_trail.mono _ _)
      | (with_reducible exact redlineref03_without.mono _ _ _)
      | (with_reducible exact LeO.refl _)
      | (with_reducible exact LeO.none _)
      | (with_reducible refine LeO.ite ?_ ?_)
      | (with_reducible refine LeO.bind ?_ (fun _ => ?_))
      | exact ih0 _ _ _ _ _ _ _
      | exact ih1 _ _ _ _ _ _ _
      | exact ih2 _ _ _ _ _ _ _
      | exact redlineref03_Expand.mono _ _
      | exact redlineref03_small.mono _ _
      | exact redlineref03_trail.mono _ _
      | exact redlineref03_without.mono _ _ _
      | exact LeO.none _
      | refine LeO.ite ?_ ?_
      | refine LeO.bind ?_ (fun _ => ?_)
theorem redlineref03_text.mono : ∀ a0 a1 a2 a3 a4 a5 a6 k, LeO (redlineref03_text.f k a0 a1 a2 a3 a4 a5 a6) (redlineref03_text.f (k + 1) a0 a1 a2 a3 a4 a5 a6) := by
  intro a0 a1 a2 a3 a4 a5 a6 k
  obtain ⟨ih0, ih1, ih2⟩ := redlineref03_text.mono_l k
  unfold redlineref03_text.f
  repeat' first
      | (with_reducible exact ih0 _ _ _ _ _ _ _)
      | (with_reducible exact ih1 _ _ _ _ _ _ _)
      | (with_reducible exact ih2 _ _ _ _ _ _ _)
      | (with_reducible exact redlineref03_Expand.mono _ _)
      | (with_reducible exact redlineref03_small.mono _ _)
      | (with_reducible exact redlineref03_trail.mono _ _)
      | (with_reducible exact redlineref03_without.mono _ _ _)
      | (with_reducible exact LeO.refl _)
      | (with_reducible exact LeO.none _)
      | (with_reducible refine LeO.ite ?_ ?_)
      | (with_reducible refine LeO.bind ?_ (fun _ => ?_))
      | exact ih0 _ _ _ _ _ _ _
      | exact ih1 _ _ _ _ _ _ _
      | exact ih2 _ _ _ _ _ _ _
      | exact redlineref03_Expand.mono _ _
      | exact redlineref03_small.mono _ _
      | exact redlineref03_trail.mono _ _
      | exact redlineref03_without.mono _ _ _
      | exact LeO.none _
      | refine LeO.ite ?_ ?_
      | refine LeO.bind ?_ (fun _ => ?_)
set_option maxHeartbeats 8000000 in
set_option maxRecDepth 100000 in
theorem redlineref03_text.calls (k : Nat) (a0 : ByteArray) (a1_0 : Bool) (a1_1 : Bool) (a1_2 : Bool) (a1_3 : Bool) (a1_4 : Bool) (a1_5 : Bool) (r : ByteArray) (w : World) (h : redlineref03_text.f k a0 a1_0 a1_1 a1_2 a1_3 a1_4 a1_5 = some r) :
    Calls Tryd.prog 76 #[.string a0, .agg #[.bool a1_0, .bool a1_1, .bool a1_2, .bool a1_3, .bool a1_4, .bool a1_5]] w fun e w' => e = .returned (.string r) ∧ Below w.heap.size w w' := by
  have hu23 := Tryd.underlying23
  have HB := Aside0.mk (Below.refl w.heap.size w)
  have H : (if a1_4 = true then ((redlineref03_Expand.f k a0).bind fun t147 => (redlineref03_text.j0 k t147 a1_0 a1_1 a1_2 a1_3 a1_4 a1_5)) else (redlineref03_text.j0 k a0 a1_0 a1_1 a1_2 a1_3 a1_4 a1_5)) = some r := h
  clear h
  have HC3 := Aside0.mk H
  clear H
  go_enter Tryd.func76, Tryd.ntmps76
  go_upto_if 6 with (first | ((with_reducible refine gate_dst (N := 3) rfl ?_); refine box_event ?hg (N := 3) ?hd (cs := #[.bool a1_0, .bool a1_1, .bool a1_2, .bool a1_3, .bool a1_4, .bool a1_5]) (t := 23) ?hr ?_; (case hd => rfl); (case hg => rfl); (case hr => first | (go_simp; done) | (go_simp; rfl)); intro gb146 hg w4 hbox hb; have n0_ := Aside0.mk (below_step (by repeat (first | (with_reducible first | exact HB.out | apply below_alloc | apply pw_below_drewN | apply below_drew1) | exact HB.out)) hb); have n1_ := Aside0.mk (hbox); have n2_ := Aside0.mk ((by rw [hg]; exact (below_size (by repeat (first | (with_reducible first | exact HB.out | apply below_alloc | apply pw_below_drewN | apply below_drew1) | exact HB.out))) : w.heap.size ≤ gb146)); have n3_ := Aside0.mk ((by rw [hg]; exact (below_size (by repeat (first | (with_reducible first | exact HB.out | apply below_alloc | apply pw_below_drewN | apply below_drew1) | exact HB.out))) : w.heap.size ≤ gb146)); clear HB; have HB := n0_; have BK146 := n1_; have GW146 := n2_; have GE146 := n3_; clear n0_ n1_ n2_ n3_; clear hb hbox hg; have hcz5_0 : w4.cell? ⟨gb146, 0, none⟩ = some (.bool a1_0) := (blk_cell BK146.out 0).trans rfl; have hcz5_1 : w4.cell? ⟨gb146, 1, none⟩ = some (.bool a1_1) := (blk_cell BK146.out 1).trans rfl; have hcz5_2 : w4.cell? ⟨gb146, 2, none⟩ = some (.bool a1_2) := (blk_cell BK146.out 2).trans rfl; have hcz5_3 : w4.cell? ⟨gb146, 3, none⟩ = some (.bool a1_3) := (blk_cell BK146.out 3).trans rfl; have hcz5_4 : w4.cell? ⟨gb146, 4, none⟩ = some (.bool a1_4) := (blk_cell BK146.out 4).trans rfl; have hcz5_5 : w4.cell? ⟨gb146, 5, none⟩ = some (.bool a1_5) := (blk_cell BK146.out 5).trans rfl; have hfz5_0 := blk_frozen BK146.out 0; have hfz5_1 := blk_frozen BK146.out 1; have hfz5_2 := blk_frozen BK146.out 2; have hfz5_3 := blk_frozen BK146.out 3; have hfz5_4 := blk_frozen BK146.out 4; have hfz5_5 := blk_frozen BK146.out 5))
  (try simp only [Act.put, List.setIfInBounds_toArray, List.set_cons_zero, List.set_cons_succ])
  go_cut [0] (fun v0 wc => ∃ (kq : Nat) (x0_2 : ByteArray), v0 = .string x0_2 ∧ Aside0 (redlineref03_text.j0 kq x0_2 a1_0 a1_1 a1_2 a1_3 a1_4 a1_5 = some r) ∧ Aside0 (kq ≤ k) ∧ Aside0 (wc.heap[gb146]? = some (.cells #[.bool a1_0, .bool a1_1, .bool a1_2, .bool a1_3, .bool a1_4, .bool a1_5] 23 (0, 0))) ∧ Aside0 (Below w.heap.size w wc))
  case first =>
    have H := HC3.out
    clear HC3
    by_cases c6 : a1_4 = true
    · subst c6
      have H1 : ((redlineref03_Expand.f k a0).bind fun t147 => (redlineref03_text.j0 k t147 a1_0 a1_1 a1_2 a1_3 true a1_5)) = some r := by rw [if_pos rfl] at H; exact H
      clear H
      have H := H1
      clear H1
      replace H := Option.bind_eq_some_iff.mp H
      obtain ⟨t147, A70, H⟩ := H
      replace H : (redlineref03_text.j0 k t147 a1_0 a1_1 a1_2 a1_3 true a1_5) = some r := H
      have A7 := Aside0.mk A70
      clear A70
      have H' := Aside0.mk H
      clear H
      go_wp2_with (first | ((with_reducible refine gate_callee (f := 97) rfl ?_); refine goesL_ (some 8) rfl rfl Tryd.func97 (by kernel_rfl) rfl #[.string a0] rfl (by (try simp only [List.map_toArray, List.map_cons, List.map_nil]); first | done | rfl | (simp only [List.length_drop, List.length_take]; rfl)) ?_; (with_reducible refine (redlineref03_Expand.calls k a0 t147 _ A7.out).mono ?_); rintro e w8 ⟨rfl, hb⟩; refine ⟨_, rfl, ?_⟩; have n0_ := Aside0.mk (blk_below (g := gb146) (o := .cells #[.bool a1_0, .bool a1_1, .bool a1_2, .bool a1_3, .bool true, .bool a1_5] 23 (0, 0)) (by (with_reducible repeat (first | refine blk_drewN ?_ _ | refine blk_drew ?_ | refine blk_alloc ?_ _)); exact BK146.out) hb); have n1_ := Aside0.mk (below_step (by repeat (first | (with_reducible first | exact HB.out | apply below_alloc | apply pw_below_drewN | apply below_drew1 | refine below_set ?_ GE146.out) | exact HB.out)) hb); clear BK146; clear HB; have BK146 := n0_; have HB := n1_; clear n0_ n1_; (try clear hb); (try clear hb2); (try clear hk); (try clear hi)))
      go_meet
      case rel => exact ⟨_, (t147), (by first | rfl | (simp; done) | (simp [*]; done)), H', ⟨by first | omega | exact Nat.le_refl _⟩, ⟨by (with_reducible repeat (first | refine blk_drewN ?_ _ | refine blk_drew ?_ | refine blk_alloc ?_ _)); exact BK146.out⟩, ⟨by repeat (first | (with_reducible first | exact HB.out | apply below_alloc | apply pw_below_drewN | apply below_drew1 | refine below_set ?_ GE146.out) | exact HB.out)⟩⟩
    · replace c6 := Bool.eq_false_iff.mpr c6
      subst c6
      have H1 : (redlineref03_text.j0 k a0 a1_0 a1_1 a1_2 a1_3 false a1_5) = some r := by rw [if_neg (show ¬ (false = true) by decide)] at H; exact H
      clear H
      have H := H1
      clear H1
      have H' := Aside0.mk H
      clear H
      go_wp2
      go_meet
      case rel => exact ⟨_, (a0), (by first | rfl | (simp; done) | (simp [*]; done)), H', ⟨by first | omega | exact Nat.le_refl _⟩, ⟨by (with_reducible repeat (first | refine blk_drewN ?_ _ | refine blk_drew ?_ | refine blk_alloc ?_ _)); exact BK146.out⟩, ⟨by repeat (first | (with_reducible first | exact HB.out | apply below_alloc | apply pw_below_drewN | apply below_drew1 | refine below_set ?_ GE146.out) | exact HB.out)⟩⟩
  case rest =>
    clear HC3
    try clear p2
    try clear c6
    try clear c7
    try clear hcz5_0
    try clear hcz5_1
    try clear hcz5_2
    try clear hcz5_3
    try clear hcz5_4
    try clear hcz5_5
    try clear hfz5_0
    try clear hfz5_1
    try clear hfz5_2
    try clear hfz5_3
    try clear hfz5_4
    try clear hfz5_5
    obtain ⟨kq, x0_2, rfl, HA, HJ2, BK146, HB⟩ := hcut
    cases kq with
    | zero => exact absurd HA.out (by simp [redlineref03_text.j0])
    | succ kj2 =>
      have H := HA.out
      clear HA
      simp only [redlineref03_text.j0] at H
      have HC9 := Aside0.mk H
      clear H
      have hcz10_0 : wc.cell? ⟨gb146, 0, none⟩ = some (.bool a1_0) := (blk_cell BK146.out 0).trans rfl
      have hcz10_1 : wc.cell? ⟨gb146, 1, none⟩ = some (.bool a1_1) := (blk_cell BK146.out 1).trans rfl
      have hcz10_2 : wc.cell? ⟨gb146, 2, none⟩ = some (.bool a1_2) := (blk_cell BK146.out 2).trans rfl
      have hcz10_3 : wc.cell? ⟨gb146, 3, none⟩ = some (.bool a1_3) := (blk_cell BK146.out 3).trans rfl
      have hcz10_4 : wc.cell? ⟨gb146, 4, none⟩ = some (.bool a1_4) := (blk_cell BK146.out 4).trans rfl
      have hcz10_5 : wc.cell? ⟨gb146, 5, none⟩ = some (.bool a1_5) := (blk_cell BK146.out 5).trans rfl
      have hfz10_0 := blk_frozen BK146.out 0
      have hfz10_1 := blk_frozen BK146.out 1
      have hfz10_2 := blk_frozen BK146.out 2
      have hfz10_3 := blk_frozen BK146.out 3
      have hfz10_4 := blk_frozen BK146.out 4
      have hfz10_5 := blk_frozen BK146.out 5
      go_upto_if 10 with (fail)
      go_cut [0] (fun v0 wc => ∃ (kq : Nat) (x0_8 : ByteArray), v0 = .string x0_8 ∧ Aside0 (redlineref03_text.j1 kq x0_8 a1_0 a1_1 a1_2 a1_3 a1_4 a1_5 = some r) ∧ Aside0 (kq ≤ kj2) ∧ Aside0 (wc.heap[gb146]? = some (.cells #[.bool a1_0, .bool a1_1, .bool a1_2, .bool a1_3, .bool a1_4, .bool a1_5] 23 (0, 0))) ∧ Aside0 (Below w.heap.size w wc))
      case first =>
        have H := HC9.out
        clear HC9
        by_cases c11 : a1_1 = true
        · subst c11
          have H1 : ((redlineref03_without.f kj2 x0_2 false).bind fun t148 => (redlineref03_text.j1 kj2 t148 a1_0 true a1_2 a1_3 a1_4 a1_5)) = some r := by rw [if_pos rfl] at H; exact H
          clear H
          have H := H1
          clear H1
          replace H := Option.bind_eq_some_iff.mp H
          obtain ⟨t148, A120, H⟩ := H
          replace H : (redlineref03_text.j1 kj2 t148 a1_0 true a1_2 a1_3 a1_4 a1_5) = some r := H
          have A12 := Aside0.mk A120
          clear A120
          have H' := Aside0.mk H
          clear H
          go_wp2_with (first | ((with_reducible refine gate_callee (f := 98) rfl ?_); refine goesL_ (some 12) rfl rfl Tryd.func98 (by kernel_rfl) rfl #[.string x0_2, .bool false] rfl (by (try simp only [List.map_toArray, List.map_cons, List.map_nil]); first | done | rfl | (simp only [List.length_drop, List.length_take]; rfl)) ?_; (with_reducible refine (redlineref03_without.calls kj2 x0_2 false t148 _ A12.out).mono ?_); rintro e w13 ⟨rfl, hb⟩; refine ⟨_, rfl, ?_⟩; have n0_ := Aside0.mk (blk_below (g := gb146) (o := .cells #[.bool a1_0, .bool true, .bool a1_2, .bool a1_3, .bool a1_4, .bool a1_5] 23 (0, 0)) (by (with_reducible repeat (first | refine blk_drewN ?_ _ | refine blk_drew ?_ | refine blk_alloc ?_ _)); exact BK146.out) hb); have n1_ := Aside0.mk (below_step (by repeat (first | (with_reducible first | exact HB.out | apply below_alloc | apply pw_below_drewN | apply below_drew1 | refine below_set ?_ GE146.out) | exact HB.out)) hb); clear BK146; clear HB; have BK146 := n0_; have HB := n1_; clear n0_ n1_; (try clear hb); (try clear hb2); (try clear hk); (try clear hi)))
          go_meet
          case rel => exact ⟨_, (t148), (by first | rfl | (simp; done) | (simp [*]; done)), H', ⟨by have := HJ2.out; first | omega | exact Nat.le_refl _⟩, ⟨by (with_reducible repeat (first | refine blk_drewN ?_ _ | refine blk_drew ?_ | refine blk_alloc ?_ _)); exact BK146.out⟩, ⟨by repeat (first | (with_reducible first | exact HB.out | apply below_alloc | apply pw_below_drewN | apply below_drew1 | refine below_set ?_ GE146.out) | exact HB.out)⟩⟩
        · replace c11 := Bool.eq_false_iff.mpr c11
          subst c11
          have H1 : (redlineref03_text.j1 kj2 x0_2 a1_0 false a1_2 a1_3 a1_4 a1_5) = some r := by rw [if_neg (show ¬ (false = true) by decide)] at H; exact H
          clear H
          have H := H1
          clear H1
          have H' := Aside0.mk H
          clear H
          go_wp2
          go_meet
          case rel => exact ⟨_, (x0_2), (by first | rfl | (simp; done) | (simp [*]; done)), H', ⟨by have := HJ2.out; first | omega | exact Nat.le_refl _⟩, ⟨by (with_reducible repeat (first | refine blk_drewN ?_ _ | refine blk_drew ?_ | refine blk_alloc ?_ _)); exact BK146.out⟩, ⟨by repeat (first | (with_reducible first | exact HB.out | apply below_alloc | apply pw_below_drewN | apply below_drew1 | refine below_set ?_ GE146.out) | exact HB.out)⟩⟩
      case rest =>
        clear HC9
        try clear c1
        try clear p2
        try clear c6
        try clear c7
        try clear c9
        try clear c11
        try clear hcz10_0
        try clear hcz10_1
        try clear hcz10_2
        try clear hcz10_3
        try clear hcz10_4
        try clear hcz10_5
        try clear hcz5_0
        try clear hcz5_1
        try clear hcz5_2
        try clear hcz5_3
        try clear hcz5_4
        try clear hcz5_5
        try clear hfz10_0
        try clear hfz10_1
        try clear hfz10_2
        try clear hfz10_3
        try clear hfz10_4
        try clear hfz10_5
        try clear hfz5_0
        try clear hfz5_1
        try clear hfz5_2
        try clear hfz5_3
        try clear hfz5_4
        try clear hfz5_5
        try clear p2
        obtain ⟨kq, x0_8, rfl, HA, HJ8, BK146, HB⟩ := hcut
        cases kq with
        | zero => exact absurd HA.out (by simp [redlineref03_text.j1])
        | succ kj8 =>
          have H := HA.out
          clear HA
          simp only [redlineref03_text.j1] at H
          have HC14 := Aside0.mk H
          clear H
          have hcz15_0 : wc.cell? ⟨gb146, 0, none⟩ = some (.bool a1_0) := (blk_cell BK146.out 0).trans rfl
          have hcz15_1 : wc.cell? ⟨gb146, 1, none⟩ = some (.bool a1_1) := (blk_cell BK146.out 1).trans rfl
          have hcz15_2 : wc.cell? ⟨gb146, 2, none⟩ = some (.bool a1_2) := (blk_cell BK146.out 2).trans rfl
          have hcz15_3 : wc.cell? ⟨gb146, 3, none⟩ = some (.bool a1_3) := (blk_cell BK146.out 3).trans rfl
          have hcz15_4 : wc.cell? ⟨gb146, 4, none⟩ = some (.bool a1_4) := (blk_cell BK146.out 4).trans rfl
          have hcz15_5 : wc.cell? ⟨gb146, 5, none⟩ = some (.bool a1_5) := (blk_cell BK146.out 5).trans rfl
          have hfz15_0 := blk_frozen BK146.out 0
          have hfz15_1 := blk_frozen BK146.out 1
          have hfz15_2 := blk_frozen BK146.out 2
          have hfz15_3 := blk_frozen BK146.out 3
          have hfz15_4 := blk_frozen BK146.out 4
          have hfz15_5 := blk_frozen BK146.out 5
          go_upto_if 14 with (fail)
          go_cut [0] (fun v0 wc => ∃ (kq : Nat) (x0_13 : ByteArray), v0 = .string x0_13 ∧ Aside0 (redlineref03_text.j2 kq x0_13 a1_0 a1_1 a1_2 a1_3 a1_4 a1_5 = some r) ∧ Aside0 (kq ≤ kj8) ∧ Aside0 (wc.heap[gb146]? = some (.cells #[.bool a1_0, .bool a1_1, .bool a1_2, .bool a1_3, .bool a1_4, .bool a1_5] 23 (0, 0))) ∧ Aside0 (Below w.heap.size w wc))
          case first =>
            have H := HC14.out
            clear HC14
            by_cases c16 : a1_0 = true
            · subst c16
              have H1 : ((redlineref03_without.f kj8 x0_8 true).bind fun t149 => ((redlineref03_trail.f kj8 t149).bind fun t150 => (redlineref03_text.j2 kj8 t150 true a1_1 a1_2 a1_3 a1_4 a1_5))) = some r := by rw [if_pos rfl] at H; exact H
              clear H
              have H := H1
              clear H1
              replace H := Option.bind_eq_some_iff.mp H
              obtain ⟨t149, A170, H⟩ := H
              replace H : ((redlineref03_trail.f kj8 t149).bind fun t150 => (redlineref03_text.j2 kj8 t150 true a1_1 a1_2 a1_3 a1_4 a1_5)) = some r := H
              have A17 := Aside0.mk A170
              clear A170
              replace H := Option.bind_eq_some_iff.mp H
              obtain ⟨t150, A180, H⟩ := H
              replace H : (redlineref03_text.j2 kj8 t150 true a1_1 a1_2 a1_3 a1_4 a1_5) = some r := H
              have A18 := Aside0.mk A180
              clear A180
              have H' := Aside0.mk H
              clear H
              go_wp2_with (first | ((with_reducible refine gate_callee (f := 98) rfl ?_); refine goesL_ (some 16) rfl rfl Tryd.func98 (by kernel_rfl) rfl #[.string x0_8, .bool true] rfl (by (try simp only [List.map_toArray, List.map_cons, List.map_nil]); first | done | rfl | (simp only [List.length_drop, List.length_take]; rfl)) ?_; (with_reducible refine (redlineref03_without.calls kj8 x0_8 true t149 _ A17.out).mono ?_); rintro e w19 ⟨rfl, hb⟩; refine ⟨_, rfl, ?_⟩; have n0_ := Aside0.mk (blk_below (g := gb146) (o := .cells #[.bool true, .bool a1_1, .bool a1_2, .bool a1_3, .bool a1_4, .bool a1_5] 23 (0, 0)) (by (with_reducible repeat (first | refine blk_drewN ?_ _ | refine blk_drew ?_ | refine blk_alloc ?_ _)); exact BK146.out) hb); have n1_ := Aside0.mk (below_step (by repeat (first | (with_reducible first | exact HB.out | apply below_alloc | apply pw_below_drewN | apply below_drew1 | refine below_set ?_ GE146.out) | exact HB.out)) hb); clear BK146; clear HB; have BK146 := n0_; have HB := n1_; clear n0_ n1_; (try clear hb); (try clear hb2); (try clear hk); (try clear hi)) | ((with_reducible refine gate_callee (f := 99) rfl ?_); refine goesL_ (some 17) rfl rfl Tryd.func99 (by kernel_rfl) rfl #[.string t149] rfl (by (try simp only [List.map_toArray, List.map_cons, List.map_nil]); first | done | rfl | (simp only [List.length_drop, List.length_take]; rfl)) ?_; (with_reducible refine (redlineref03_trail.calls kj8 t149 t150 _ A18.out).mono ?_); rintro e w' ⟨rfl, ⟨nd, rfl⟩⟩; refine ⟨_, rfl, ?_⟩))
              go_meet
              case rel => exact ⟨_, (t150), (by first | rfl | (simp; done) | (simp [*]; done)), H', ⟨by have := HJ2.out; have := HJ8.out; first | omega | exact Nat.le_refl _⟩, ⟨by (with_reducible repeat (first | refine blk_drewN ?_ _ | refine blk_drew ?_ | refine blk_alloc ?_ _)); exact BK146.out⟩, ⟨by repeat (first | (with_reducible first | exact HB.out | apply below_alloc | apply pw_below_drewN | apply below_drew1 | refine below_set ?_ GE146.out) | exact HB.out)⟩⟩
            · replace c16 := Bool.eq_false_iff.mpr c16
              subst c16
              have H1 : (redlineref03_text.j2 kj8 x0_8 false a1_1 a1_2 a1_3 a1_4 a1_5) = some r := by rw [if_neg (show ¬ (false = true) by decide)] at H; exact H
              clear H
              have H := H1
              clear H1
              have H' := Aside0.mk H
              clear H
              go_wp2
              go_meet
              case rel => exact ⟨_, (x0_8), (by first | rfl | (simp; done) | (simp [*]; done)), H', ⟨by have := HJ2.out; have := HJ8.out; first | omega | exact Nat.le_refl _⟩, ⟨by (with_reducible repeat (first | refine blk_drewN ?_ _ | refine blk_drew ?_ | refine blk_alloc ?_ _)); exact BK146.out⟩, ⟨by repeat (first | (with_reducible first | exact HB.out | apply below_alloc | apply pw_below_drewN | apply below_drew1 | refine below_set ?_ GE146.out) | exact HB.out)⟩⟩
          case rest =>
            clear HC14
            try clear c1
            try clear p2
            try clear c6
            try clear c7
            try clear c9
            try clear c11
            try clear c16
            try clear hcz10_0
            try clear hcz10_1
            try clear hcz10_2
            try clear hcz10_3
            try clear hcz10_4
            try clear hcz10_5
            try clear hcz15_0
            try clear hcz15_1
            try clear hcz15_2
            try clear hcz15_3
            try clear hcz15_4
            try clear hcz15_5
            try clear hcz5_0
            try clear hcz5_1
            try clear hcz5_2
            try clear hcz5_3
            try clear hcz5_4
            try clear hcz5_5
            try clear hfz10_0
            try clear hfz10_1
            try clear hfz10_2
            try clear hfz10_3
            try clear hfz10_4
            try clear hfz10_5
            try clear hfz15_0
            try clear hfz15_1
            try clear hfz15_2
            try clear hfz15_3
            try clear hfz15_4
            try clear hfz15_5
            try clear hfz5_0
            try clear hfz5_1
            try clear hfz5_2
            try clear hfz5_3
            try clear hfz5_4
            try clear hfz5_5
            try clear p2
            obtain ⟨kq, x0_13, rfl, HA, HJ13, BK146, HB⟩ := hcut
            cases kq with
            | zero => exact absurd HA.out (by simp [redlineref03_text.j2])
            | succ kj13 =>
              have H := HA.out
              clear HA
              simp only [redlineref03_text.j2] at H
              by_cases c20 : a1_5 = true
              · subst c20
                have H1 : ((redlineref03_trail.f kj13 x0_13).bind fun t151 => (if a1_3 = true then ((redlineref03_small.f kj13 t151).bind fun t152 => (some t152)) else (some t151))) = some r := by rw [if_pos rfl] at H; exact H
                clear H
                have H := H1
                clear H1
                replace H := Option.bind_eq_some_iff.mp H
                obtain ⟨t151, A210, H⟩ := H
                replace H : (if a1_3 = true then ((redlineref03_small.f kj13 t151).bind fun t152 => (some t152)) else (some t151)) = some r := H
                have A21 := Aside0.mk A210
                clear A210
                by_cases c22 : a1_3 = true
                · subst c22
                  have H1 : ((redlineref03_small.f kj13 t151).bind fun t152 => (some t152)) = some r := by rw [if_pos rfl] at H; exact H
                  clear H
                  have H := H1
                  clear H1
                  replace H := Option.bind_eq_some_iff.mp H
                  obtain ⟨t152, A230, H⟩ := H
                  replace H : (some t152) = some r := H
                  have A23 := Aside0.mk A230
                  clear A230
                  obtain rfl := Option.some.inj H
                  have hcz24_0 : wc.cell? ⟨gb146, 0, none⟩ = some (.bool a1_0) := (blk_cell BK146.out 0).trans rfl
                  have hcz24_1 : wc.cell? ⟨gb146, 1, none⟩ = some (.bool a1_1) := (blk_cell BK146.out 1).trans rfl
                  have hcz24_2 : wc.cell? ⟨gb146, 2, none⟩ = some (.bool a1_2) := (blk_cell BK146.out 2).trans rfl
                  have hcz24_3 : wc.cell? ⟨gb146, 3, none⟩ = some (.bool true) := (blk_cell BK146.out 3).trans rfl
                  have hcz24_4 : wc.cell? ⟨gb146, 4, none⟩ = some (.bool a1_4) := (blk_cell BK146.out 4).trans rfl
                  have hcz24_5 : wc.cell? ⟨gb146, 5, none⟩ = some (.bool true) := (blk_cell BK146.out 5).trans rfl
                  have hfz24_0 := blk_frozen BK146.out 0
                  have hfz24_1 := blk_frozen BK146.out 1
                  have hfz24_2 := blk_frozen BK146.out 2
                  have hfz24_3 := blk_frozen BK146.out 3
                  have hfz24_4 := blk_frozen BK146.out 4
                  have hfz24_5 := blk_frozen BK146.out 5
                  go_wp2_with (first | ((with_reducible refine gate_callee (f := 99) rfl ?_); refine goesL_ (some 21) rfl rfl Tryd.func99 (by kernel_rfl) rfl #[.string x0_13] rfl (by (try simp only [List.map_toArray, List.map_cons, List.map_nil]); first | done | rfl | (simp only [List.length_drop, List.length_take]; rfl)) ?_; (with_reducible refine (redlineref03_trail.calls kj13 x0_13 t151 _ A21.out).mono ?_); rintro e w' ⟨rfl, ⟨nd, rfl⟩⟩; refine ⟨_, rfl, ?_⟩) | ((with_reducible refine gate_callee (f := 100) rfl ?_); refine goesL_ (some 25) rfl rfl Tryd.func100 (by kernel_rfl) rfl #[.string t151] rfl (by (try simp only [List.map_toArray, List.map_cons, List.map_nil]); first | done | rfl | (simp only [List.length_drop, List.length_take]; rfl)) ?_; (with_reducible refine (redlineref03_small.calls kj13 t151 t152 _ A23.out).mono ?_); rintro e w25 ⟨rfl, hb⟩; refine ⟨_, rfl, ?_⟩; have n0_ := Aside0.mk (blk_below (g := gb146) (o := .cells #[.bool a1_0, .bool a1_1, .bool a1_2, .bool true, .bool a1_4, .bool true] 23 (0, 0)) (by (with_reducible repeat (first | refine blk_drewN ?_ _ | refine blk_drew ?_ | refine blk_alloc ?_ _)); exact BK146.out) hb); have n1_ := Aside0.mk (below_step (by repeat (first | (with_reducible first | exact HB.out | apply below_alloc | apply pw_below_drewN | apply below_drew1 | refine below_set ?_ GE146.out) | exact HB.out)) hb); clear BK146; clear HB; have BK146 := n0_; have HB := n1_; clear n0_ n1_; (try clear hb); (try clear hb2); (try clear hk); (try clear hi)))
                  go_ret
                  exact ⟨by first | rfl | (simp [errW_none, errW_some] <;> rfl) | (simp [*, errW_none, errW_some] <;> rfl), by repeat (first | (with_reducible first | exact HB.out | apply below_alloc | apply pw_below_drewN | apply below_drew1 | refine below_set ?_ GE146.out) | exact HB.out)⟩
                · replace c22 := Bool.eq_false_iff.mpr c22
                  subst c22
                  have H1 : (some t151) = some r := by rw [if_neg (show ¬ (false = true) by decide)] at H; exact H
                  clear H
                  have H := H1
                  clear H1
                  obtain rfl := Option.some.inj H
                  have hcz26_0 : wc.cell? ⟨gb146, 0, none⟩ = some (.bool a1_0) := (blk_cell BK146.out 0).trans rfl
                  have hcz26_1 : wc.cell? ⟨gb146, 1, none⟩ = some (.bool a1_1) := (blk_cell BK146.out 1).trans rfl
                  have hcz26_2 : wc.cell? ⟨gb146, 2, none⟩ = some (.bool a1_2) := (blk_cell BK146.out 2).trans rfl
                  have hcz26_3 : wc.cell? ⟨gb146, 3, none⟩ = some (.bool false) := (blk_cell BK146.out 3).trans rfl
                  have hcz26_4 : wc.cell? ⟨gb146, 4, none⟩ = some (.bool a1_4) := (blk_cell BK146.out 4).trans rfl
                  have hcz26_5 : wc.cell? ⟨gb146, 5, none⟩ = some (.bool true) := (blk_cell BK146.out 5).trans rfl
                  have hfz26_0 := blk_frozen BK146.out 0
                  have hfz26_1 := blk_frozen BK146.out 1
                  have hfz26_2 := blk_frozen BK146.out 2
                  have hfz26_3 := blk_frozen BK146.out 3
                  have hfz26_4 := blk_frozen BK146.out 4
                  have hfz26_5 := blk_frozen BK146.out 5
                  go_wp2_with (first | ((with_reducible refine gate_callee (f := 99) rfl ?_); refine goesL_ (some 21) rfl rfl Tryd.func99 (by kernel_rfl) rfl #[.string x0_13] rfl (by (try simp only [List.map_toArray, List.map_cons, List.map_nil]); first | done | rfl | (simp only [List.length_drop, List.length_take]; rfl)) ?_; (with_reducible refine (redlineref03_trail.calls kj13 x0_13 t151 _ A21.out).mono ?_); rintro e w' ⟨rfl, ⟨nd, rfl⟩⟩; refine ⟨_, rfl, ?_⟩))
                  go_ret
                  exact ⟨by first | rfl | (simp [errW_none, errW_some] <;> rfl) | (simp [*, errW_none, errW_some] <;> rfl), by repeat (first | (with_reducible first | exact HB.out | apply below_alloc | apply pw_below_drewN | apply below_drew1 | refine below_set ?_ GE146.out) | exact HB.out)⟩
              · replace c20 := Bool.eq_false_iff.mpr c20
                subst c20
                have H1 : (if a1_3 = true then ((redlineref03_small.f kj13 x0_13).bind fun t153 => (some t153)) else (some x0_13)) = some r := by rw [if_neg (show ¬ (false = true) by decide)] at H; exact H
                clear H
                have H := H1
                clear H1
                by_cases c27 : a1_3 = true
                · subst c27
                  have H1 : ((redlineref03_small.f kj13 x0_13).bind fun t153 => (some t153)) = some r := by rw [if_pos rfl] at H; exact H
                  clear H
                  have H := H1
                  clear H1
                  replace H := Option.bind_eq_some_iff.mp H
                  obtain ⟨t153, A280, H⟩ := H
                  replace H : (some t153) = some r := H
                  have A28 := Aside0.mk A280
                  clear A280
                  obtain rfl := Option.some.inj H
                  have hcz29_0 : wc.cell? ⟨gb146, 0, none⟩ = some (.bool a1_0) := (blk_cell BK146.out 0).trans rfl
                  have hcz29_1 : wc.cell? ⟨gb146, 1, none⟩ = some (.bool a1_1) := (blk_cell BK146.out 1).trans rfl
                  have hcz29_2 : wc.cell? ⟨gb146, 2, none⟩ = some (.bool a1_2) := (blk_cell BK146.out 2).trans rfl
                  have hcz29_3 : wc.cell? ⟨gb146, 3, none⟩ = some (.bool true) := (blk_cell BK146.out 3).trans rfl
                  have hcz29_4 : wc.cell? ⟨gb146, 4, none⟩ = some (.bool a1_4) := (blk_cell BK146.out 4).trans rfl
                  have hcz29_5 : wc.cell? ⟨gb146, 5, none⟩ = some (.bool false) := (blk_cell BK146.out 5).trans rfl
                  have hfz29_0 := blk_frozen BK146.out 0
                  have hfz29_1 := blk_frozen BK146.out 1
                  have hfz29_2 := blk_frozen BK146.out 2
                  have hfz29_3 := blk_frozen BK146.out 3
                  have hfz29_4 := blk_frozen BK146.out 4
                  have hfz29_5 := blk_frozen BK146.out 5
                  go_wp2_with (first | ((with_reducible refine gate_callee (f := 100) rfl ?_); refine goesL_ (some 25) rfl rfl Tryd.func100 (by kernel_rfl) rfl #[.string x0_13] rfl (by (try simp only [List.map_toArray, List.map_cons, List.map_nil]); first | done | rfl | (simp only [List.length_drop, List.length_take]; rfl)) ?_; (with_reducible refine (redlineref03_small.calls kj13 x0_13 t153 _ A28.out).mono ?_); rintro e w30 ⟨rfl, hb⟩; refine ⟨_, rfl, ?_⟩; have n0_ := Aside0.mk (blk_below (g := gb146) (o := .cells #[.bool a1_0, .bool a1_1, .bool a1_2, .bool true, .bool a1_4, .bool false] 23 (0, 0)) (by (with_reducible repeat (first | refine blk_drewN ?_ _ | refine blk_drew ?_ | refine blk_alloc ?_ _)); exact BK146.out) hb); have n1_ := Aside0.mk (below_step (by repeat (first | (with_reducible first | exact HB.out | apply below_alloc | apply pw_below_drewN | apply below_drew1 | refine below_set ?_ GE146.out) | exact HB.out)) hb); clear BK146; clear HB; have BK146 := n0_; have HB := n1_; clear n0_ n1_; (try clear hb); (try clear hb2); (try clear hk); (try clear hi)))
                  go_ret
                  exact ⟨by first | rfl | (simp [errW_none, errW_some] <;> rfl) | (simp [*, errW_none, errW_some] <;> rfl), by repeat (first | (with_reducible first | exact HB.out | apply below_alloc | apply pw_below_drewN | apply below_drew1 | refine below_set ?_ GE146.out) | exact HB.out)⟩
                · replace c27 := Bool.eq_false_iff.mpr c27
                  subst c27
                  have H1 : (some x0_13) = some r := by rw [if_neg (show ¬ (false = true) by decide)] at H; exact H
                  clear H
                  have H := H1
                  clear H1
                  obtain rfl := Option.some.inj H
                  have hcz31_0 : wc.cell? ⟨gb146, 0, none⟩ = some (.bool a1_0) := (blk_cell BK146.out 0).trans rfl
                  have hcz31_1 : wc.cell? ⟨gb146, 1, none⟩ = some (.bool a1_1) := (blk_cell BK146.out 1).trans rfl
                  have hcz31_2 : wc.cell? ⟨gb146, 2, none⟩ = some (.bool a1_2) := (blk_cell BK146.out 2).trans rfl
                  have hcz31_3 : wc.cell? ⟨gb146, 3, none⟩ = some (.bool false) := (blk_cell BK146.out 3).trans rfl
                  have hcz31_4 : wc.cell? ⟨gb146, 4, none⟩ = some (.bool a1_4) := (blk_cell BK146.out 4).trans rfl
                  have hcz31_5 : wc.cell? ⟨gb146, 5, none⟩ = some (.bool false) := (blk_cell BK146.out 5).trans rfl
                  have hfz31_0 := blk_frozen BK146.out 0
                  have hfz31_1 := blk_frozen BK146.out 1
                  have hfz31_2 := blk_frozen BK146.out 2
                  have hfz31_3 := blk_frozen BK146.out 3
                  have hfz31_4 := blk_frozen BK146.out 4
                  have hfz31_5 := blk_frozen BK146.out 5
                  go_wp2
                  go_ret
                  exact ⟨by first | rfl | (simp [errW_none, errW_some] <;> rfl) | (simp [*, errW_none, errW_some] <;> rfl), by repeat (first | (with_reducible first | exact HB.out | apply below_alloc | apply pw_below_drewN | apply below_drew1 | refine below_set ?_ GE146.out) | exact HB.out)⟩

/-! ### redlineref03_Canon: function 52 -/
def redlineref03_Canon.f (k : Nat) (a0 : ByteArray) (a1_0 : Bool) (a1_1 : Bool) (a1_2 : Bool) (a1_3 : Bool) (a1_4 : Bool) (a1_5 : Bool) : Option (ByteArray) := (redlineref02_Bare.f a0).bind fun bt155 => (if bt155.2 = true then ((redlineref03_text.f k bt155.1 a1_0 a1_1 a1_2 a1_3 a1_4 a1_5).bind fun t157 => (if t157.size + 1 ≤ 9223372036854775807 then (some (t157 ++ (⟨#[10]⟩ : ByteArray))) else (none))) else ((redlineref03_text.f k bt155.1 a1_0 a1_1 a1_2 a1_3 a1_4 a1_5).bind fun t158 => (some t158)))
theorem redlineref03_Canon.mono : ∀ a0 a1 a2 a3 a4 a5 a6 k, LeO (redlineref03_Canon.f k a0 a1 a2 a3 a4 a5 a6) (redlineref03_Canon.f (k + 1) a0 a1 a2 a3 a4 a5 a6) := by
  intro a0 a1 a2 a3 a4 a5 a6 k
  unfold redlineref03_Canon.f
  repeat' first
      | (with_reducible exact redlineref03_text.mono _ _ _ _ _ _ _ _)
      | (with_reducible exact LeO.refl _)
      | (with_reducible exact LeO.none _)
      | (with_reducible refine LeO.ite ?_ ?_)
      | (with_reducible refine LeO.bind ?_ (fun _ => ?_))
      | exact redlineref03_text.mono _ _ _ _ _ _ _ _
      | exact LeO.none _
      | refine LeO.ite ?_ ?_
      | refine LeO.bind ?_ (fun _ => ?_)
set_option maxHeartbeats 8000000 in
set_option maxRecDepth 100000 in
theorem redlineref03_Canon.calls (k : Nat) (a0 : ByteArray) (a1_0 : Bool) (a1_1 : Bool) (a1_2 : Bool) (a1_3 : Bool) (a1_4 : Bool) (a1_5 : Bool) (r : ByteArray) (w : World) (h : redlineref03_Canon.f k a0 a1_0 a1_1 a1_2 a1_3 a1_4 a1_5 = some r) :
    Calls Tryd.prog 52 #[.string a0, .agg #[.bool a1_0, .bool a1_1, .bool a1_2, .bool a1_3, .bool a1_4, .bool a1_5]] w fun e w' => e = .returned (.string r) ∧ Below w.heap.size w w' := by
  have hu23 := Tryd.underlying23
  have HB := Aside0.mk (Below.refl w.heap.size w)
  have H : ((redlineref02_Bare.f a0).bind fun bt155 => (if bt155.2 = true then ((redlineref03_text.f k bt155.1 a1_0 a1_1 a1_2 a1_3 a1_4 a1_5).bind fun t157 => (if t157.size + 1 ≤ 9223372036854775807 then (some (t157 ++ (⟨#[10]⟩ : ByteArray))) else (none))) else ((redlineref03_text.f k bt155.1 a1_0 a1_1 a1_2 a1_3 a1_4 a1_5).bind fun t158 => (some t158)))) = some r := h
  clear h
  replace H := Option.bind_eq_some_iff.mp H
  obtain ⟨⟨t155, t156⟩, A30, H⟩ := H
  replace H : (if t156 = true then ((redlineref03_text.f k t155 a1_0 a1_1 a1_2 a1_3 a1_4 a1_5).bind fun t157 => (if t157.size + 1 ≤ 9223372036854775807 then (some (t157 ++ (⟨#[10]⟩ : ByteArray))) else (none))) else ((redlineref03_text.f k t155 a1_0 a1_1 a1_2 a1_3 a1_4 a1_5).bind fun t158 => (some t158))) = some r := H
  have A3 := Aside0.mk A30
  clear A30
  by_cases c4 : t156 = true
  · subst c4
    have H1 : ((redlineref03_text.f k t155 a1_0 a1_1 a1_2 a1_3 a1_4 a1_5).bind fun t157 => (if t157.size + 1 ≤ 9223372036854775807 then (some (t157 ++ (⟨#[10]⟩ : ByteArray))) else (none))) = some r := by rw [if_pos rfl] at H; exact H
    clear H
    have H := H1
    clear H1
    replace H := Option.bind_eq_some_iff.mp H
    obtain ⟨t157, A50, H⟩ := H
    replace H : (if t157.size + 1 ≤ 9223372036854775807 then (some (t157 ++ (⟨#[10]⟩ : ByteArray))) else (none)) = some r := H
    have A5 := Aside0.mk A50
    clear A50
    by_cases c6 : t157.size + 1 ≤ 9223372036854775807
    · rw [if_pos c6] at H
      have c6b0 := eq_true c6
      have c6b1 : decide (t157.size + 1 ≤ 9223372036854775807) = true := decide_eq_true c6
      try have c6b2 : (9223372036854775807 < t157.size + 1) = False := eq_false (Nat.not_lt.2 c6)
      obtain rfl := Option.some.inj H
      go_enter Tryd.func52, Tryd.ntmps52
      go_wp2_with (first | ((with_reducible refine gate_dst (N := 3) rfl ?_); refine box_event ?hg (N := 3) ?hd (cs := #[.bool a1_0, .bool a1_1, .bool a1_2, .bool a1_3, .bool a1_4, .bool a1_5]) (t := 23) ?hr ?_; (case hd => rfl); (case hg => rfl); (case hr => first | (go_simp; done) | (go_simp; rfl)); intro gb154 hg w7 hbox hb; have n0_ := Aside0.mk (below_step (by repeat (first | (with_reducible first | exact HB.out | apply below_alloc | apply pw_below_drewN | apply below_drew1) | exact HB.out)) hb); have n1_ := Aside0.mk (hbox); have n2_ := Aside0.mk ((by rw [hg]; exact (below_size (by repeat (first | (with_reducible first | exact HB.out | apply below_alloc | apply pw_below_drewN | apply below_drew1) | exact HB.out))) : w.heap.size ≤ gb154)); have n3_ := Aside0.mk ((by rw [hg]; exact (below_size (by repeat (first | (with_reducible first | exact HB.out | apply below_alloc | apply pw_below_drewN | apply below_drew1) | exact HB.out))) : w.heap.size ≤ gb154)); clear HB; have HB := n0_; have BK154 := n1_; have GW154 := n2_; have GE154 := n3_; clear n0_ n1_ n2_ n3_; clear hb hbox hg) | ((with_reducible refine gate_callee (f := 75) rfl ?_); refine goesL_ (some 9) rfl rfl Tryd.func75 (by kernel_rfl) rfl #[.string a0] rfl (by (try simp only [List.map_toArray, List.map_cons, List.map_nil]); first | done | rfl | (simp only [List.length_drop, List.length_take]; rfl)) ?_; (with_reducible refine (redlineref02_Bare.calls a0 t155 true _ A3.out).mono ?_); rintro e w' ⟨rfl, ⟨nd, rfl⟩⟩; refine ⟨_, rfl, ?_⟩; have hcz8_0 : w7.cell? ⟨gb154, 0, none⟩ = some (.bool a1_0) := (blk_cell BK154.out 0).trans rfl; have hcz8_1 : w7.cell? ⟨gb154, 1, none⟩ = some (.bool a1_1) := (blk_cell BK154.out 1).trans rfl; have hcz8_2 : w7.cell? ⟨gb154, 2, none⟩ = some (.bool a1_2) := (blk_cell BK154.out 2).trans rfl; have hcz8_3 : w7.cell? ⟨gb154, 3, none⟩ = some (.bool a1_3) := (blk_cell BK154.out 3).trans rfl; have hcz8_4 : w7.cell? ⟨gb154, 4, none⟩ = some (.bool a1_4) := (blk_cell BK154.out 4).trans rfl; have hcz8_5 : w7.cell? ⟨gb154, 5, none⟩ = some (.bool a1_5) := (blk_cell BK154.out 5).trans rfl; have hfz8_0 := blk_frozen BK154.out 0; have hfz8_1 := blk_frozen BK154.out 1; have hfz8_2 := blk_frozen BK154.out 2; have hfz8_3 := blk_frozen BK154.out 3; have hfz8_4 := blk_frozen BK154.out 4; have hfz8_5 := blk_frozen BK154.out 5) | ((with_reducible refine gate_callee (f := 76) rfl ?_); refine goesL_ (some 15) rfl rfl Tryd.func76 (by kernel_rfl) rfl #[.string t155, .agg #[.bool a1_0, .bool a1_1, .bool a1_2, .bool a1_3, .bool a1_4, .bool a1_5]] rfl (by (try simp only [List.map_toArray, List.map_cons, List.map_nil]); first | done | rfl | (simp only [List.length_drop, List.length_take]; rfl)) ?_; (with_reducible refine (redlineref03_text.calls k t155 a1_0 a1_1 a1_2 a1_3 a1_4 a1_5 t157 _ A5.out).mono ?_); rintro e w9 ⟨rfl, hb⟩; refine ⟨_, rfl, ?_⟩; have n0_ := Aside0.mk (blk_below (g := gb154) (o := .cells #[.bool a1_0, .bool a1_1, .bool a1_2, .bool a1_3, .bool a1_4, .bool a1_5] 23 (0, 0)) (by (with_reducible repeat (first | refine blk_drewN ?_ _ | refine blk_drew ?_ | refine blk_alloc ?_ _)); exact BK154.out) hb); have n1_ := Aside0.mk (below_step (by repeat (first | (with_reducible first | exact HB.out | apply below_alloc | apply pw_below_drewN | apply below_drew1 | refine below_set ?_ GE154.out) | exact HB.out)) hb); clear BK154; clear HB; have BK154 := n0_; have HB := n1_; clear n0_ n1_; (try clear hb); (try clear hb2); (try clear hk); (try clear hi)))
      go_ret
      exact ⟨by first | rfl | (simp [errW_none, errW_some] <;> rfl) | (simp [*, errW_none, errW_some] <;> rfl), by repeat (first | (with_reducible first | exact HB.out | apply below_alloc | apply pw_below_drewN | apply below_drew1 | refine below_set ?_ GE154.out) | exact HB.out)⟩
    · rw [if_neg c6] at H
      exact absurd H (by simp)
  · replace c4 := Bool.eq_false_iff.mpr c4
    subst c4
    have H1 : ((redlineref03_text.f k t155 a1_0 a1_1 a1_2 a1_3 a1_4 a1_5).bind fun t158 => (some t158)) = some r := by rw [if_neg (show ¬ (false = true) by decide)] at H; exact H
    clear H
    have H := H1
    clear H1
    replace H := Option.bind_eq_some_iff.mp H
    obtain ⟨t158, A100, H⟩ := H
    replace H : (some t158) = some r := H
    have A10 := Aside0.mk A100
    clear A100
    obtain rfl := Option.some.inj H
    go_enter Tryd.func52, Tryd.ntmps52
    go_wp2_with (first | ((with_reducible refine gate_dst (N := 3) rfl ?_); refine box_event ?hg (N := 3) ?hd (cs := #[.bool a1_0, .bool a1_1, .bool a1_2, .bool a1_3, .bool a1_4, .bool a1_5]) (t := 23) ?hr ?_; (case hd => rfl); (case hg => rfl); (case hr => first | (go_simp; done) | (go_simp; rfl)); intro gb154 hg w11 hbox hb; have n0_ := Aside0.mk (below_step (by repeat (first | (with_reducible first | exact HB.out | apply below_alloc | apply pw_below_drewN | apply below_drew1) | exact HB.out)) hb); have n1_ := Aside0.mk (hbox); have n2_ := Aside0.mk ((by rw [hg]; exact (below_size (by repeat (first | (with_reducible first | exact HB.out | apply below_alloc | apply pw_below_drewN | apply below_drew1) | exact HB.out))) : w.heap.size ≤ gb154)); have n3_ := Aside0.mk ((by rw [hg]; exact (below_size (by repeat (first | (with_reducible first | exact HB.out | apply below_alloc | apply pw_below_drewN | apply below_drew1) | exact HB.out))) : w.heap.size ≤ gb154)); clear HB; have HB := n0_; have BK154 := n1_; have GW154 := n2_; have GE154 := n3_; clear n0_ n1_ n2_ n3_; clear hb hbox hg) | ((with_reducible refine gate_callee (f := 75) rfl ?_); refine goesL_ (some 9) rfl rfl Tryd.func75 (by kernel_rfl) rfl #[.string a0] rfl (by (try simp only [List.map_toArray, List.map_cons, List.map_nil]); first | done | rfl | (simp only [List.length_drop, List.length_take]; rfl)) ?_; (with_reducible refine (redlineref02_Bare.calls a0 t155 false _ A3.out).mono ?_); rintro e w' ⟨rfl, ⟨nd, rfl⟩⟩; refine ⟨_, rfl, ?_⟩; have hcz12_0 : w11.cell? ⟨gb154, 0, none⟩ = some (.bool a1_0) := (blk_cell BK154.out 0).trans rfl; have hcz12_1 : w11.cell? ⟨gb154, 1, none⟩ = some (.bool a1_1) := (blk_cell BK154.out 1).trans rfl; have hcz12_2 : w11.cell? ⟨gb154, 2, none⟩ = some (.bool a1_2) := (blk_cell BK154.out 2).trans rfl; have hcz12_3 : w11.cell? ⟨gb154, 3, none⟩ = some (.bool a1_3) := (blk_cell BK154.out 3).trans rfl; have hcz12_4 : w11.cell? ⟨gb154, 4, none⟩ = some (.bool a1_4) := (blk_cell BK154.out 4).trans rfl; have hcz12_5 : w11.cell? ⟨gb154, 5, none⟩ = some (.bool a1_5) := (blk_cell BK154.out 5).trans rfl; have hfz12_0 := blk_frozen BK154.out 0; have hfz12_1 := blk_frozen BK154.out 1; have hfz12_2 := blk_frozen BK154.out 2; have hfz12_3 := blk_frozen BK154.out 3; have hfz12_4 := blk_frozen BK154.out 4; have hfz12_5 := blk_frozen BK154.out 5) | ((with_reducible refine gate_callee (f := 76) rfl ?_); refine goesL_ (some 19) rfl rfl Tryd.func76 (by kernel_rfl) rfl #[.string t155, .agg #[.bool a1_0, .bool a1_1, .bool a1_2, .bool a1_3, .bool a1_4, .bool a1_5]] rfl (by (try simp only [List.map_toArray, List.map_cons, List.map_nil]); first | done | rfl | (simp only [List.length_drop, List.length_take]; rfl)) ?_; (with_reducible refine (redlineref03_text.calls k t155 a1_0 a1_1 a1_2 a1_3 a1_4 a1_5 t158 _ A10.out).mono ?_); rintro e w13 ⟨rfl, hb⟩; refine ⟨_, rfl, ?_⟩; have n0_ := Aside0.mk (blk_below (g := gb154) (o := .cells #[.bool a1_0, .bool a1_1, .bool a1_2, .bool a1_3, .bool a1_4, .bool a1_5] 23 (0, 0)) (by (with_reducible repeat (first | refine blk_drewN ?_ _ | refine blk_drew ?_ | refine blk_alloc ?_ _)); exact BK154.out) hb); have n1_ := Aside0.mk (below_step (by repeat (first | (with_reducible first | exact HB.out | apply below_alloc | apply pw_below_drewN | apply below_drew1 | refine below_set ?_ GE154.out) | exact HB.out)) hb); clear BK154; clear HB; have BK154 := n0_; have HB := n1_; clear n0_ n1_; (try clear hb); (try clear hb2); (try clear hk); (try clear hi)))
    go_ret
    exact ⟨by first | rfl | (simp [errW_none, errW_some] <;> rfl) | (simp [*, errW_none, errW_some] <;> rfl), by repeat (first | (with_reducible first | exact HB.out | apply below_alloc | apply pw_below_drewN | apply below_drew1 | refine below_set ?_ GE154.out) | exact HB.out)⟩

/-! ### redlineref03_Equal: function 31 -/
def redlineref03_Equal.f (k : Nat) (a0 : ByteArray) (a1 : ByteArray) (a2_0 : Bool) (a2_1 : Bool) (a2_2 : Bool) (a2_3 : Bool) (a2_4 : Bool) (a2_5 : Bool) : Option (Bool) := (redlineref03_Canon.f k a0 a2_0 a2_1 a2_2 a2_3 a2_4 a2_5).bind fun t160 => ((redlineref03_Canon.f k a1 a2_0 a2_1 a2_2 a2_3 a2_4 a2_5).bind fun t161 => (some (t160.toList == t161.toList)))
theorem redlineref03_Equal.mono : ∀ a0 a1 a2 a3 a4 a5 a6 a7 k, LeO (redlineref03_Equal.f k a0 a1 a2 a3 a4 a5 a6 a7) (redlineref03_Equal.f (k + 1) a0 a1 a2 a3 a4 a5 a6 a7) := by
  intro a0 a1 a2 a3 a4 a5 a6 a7 k
  unfold redlineref03_Equal.f
  repeat' first
      | (with_reducible exact redlineref03_Canon.mono _ _ _ _ _ _ _ _)
      | (with_reducible exact LeO.refl _)
      | (with_reducible exact LeO.none _)
      | (with_reducible refine LeO.ite ?_ ?_)
      | (with_reducible refine LeO.bind ?_ (fun _ => ?_))
      | exact redlineref03_Canon.mono _ _ _ _ _ _ _ _
      | exact LeO.none _
      | refine LeO.ite ?_ ?_
      | refine LeO.bind ?_ (fun _ => ?_)
def redlineref03_Equal.T1 : Bool × List (List Nat × List Nat) := (true, [([], []), ([], []), ([0, 1], [0, 1]), ([], []), ([], []), ([3, 4, 2], [3, 4]), ([2, 5], [2, 5]), ([6, 5, 0, 1, 2, 3, 4, 5, 6], [6])])
def redlineref03_Equal.B1 : List Nat := [0, 0, 3, 0, 0, 31, 63, 127]
theorem redlineref03_Equal.tab1 : rtab .any (opsOf Tryd.f31 1) = redlineref03_Equal.T1 := by kernel_rfl
theorem redlineref03_Equal.bits1 : waitsOk redlineref03_Equal.T1.2 redlineref03_Equal.B1 = true := by kernel_rfl
set_option maxHeartbeats 8000000 in
set_option maxRecDepth 100000 in
theorem redlineref03_Equal.calls (k : Nat) (a0 : ByteArray) (a1 : ByteArray) (a2_0 : Bool) (a2_1 : Bool) (a2_2 : Bool) (a2_3 : Bool) (a2_4 : Bool) (a2_5 : Bool) (r : Bool) (w : World) (h : redlineref03_Equal.f k a0 a1 a2_0 a2_1 a2_2 a2_3 a2_4 a2_5 = some r) :
    Calls Tryd.prog 31 #[.string a0, .string a1, .agg #[.bool a2_0, .bool a2_1, .bool a2_2, .bool a2_3, .bool a2_4, .bool a2_5]] w fun e w' => e = .returned (.bool r) ∧ Below w.heap.size w w' := by
  have hu23 := Tryd.underlying23
  have HB := Aside0.mk (Below.refl w.heap.size w)
  have H : ((redlineref03_Canon.f k a0 a2_0 a2_1 a2_2 a2_3 a2_4 a2_5).bind fun t160 => ((redlineref03_Canon.f k a1 a2_0 a2_1 a2_2 a2_3 a2_4 a2_5).bind fun t161 => (some (t160.toList == t161.toList)))) = some r := h
  clear h
  replace H := Option.bind_eq_some_iff.mp H
  obtain ⟨t160, A40, H⟩ := H
  replace H : ((redlineref03_Canon.f k a1 a2_0 a2_1 a2_2 a2_3 a2_4 a2_5).bind fun t161 => (some (t160.toList == t161.toList))) = some r := H
  have A4 := Aside0.mk A40
  clear A40
  replace H := Option.bind_eq_some_iff.mp H
  obtain ⟨t161, A50, H⟩ := H
  replace H : (some (t160.toList == t161.toList)) = some r := H
  have A5 := Aside0.mk A50
  clear A50
  obtain rfl := Option.some.inj H
  go_enter Tryd.func31, Tryd.ntmps31
  try go_wp2_with (first | ((with_reducible refine gate_dst (N := 5) rfl ?_); refine box_event ?hg (N := 5) ?hd (cs := #[.bool a2_0, .bool a2_1, .bool a2_2, .bool a2_3, .bool a2_4, .bool a2_5]) (t := 23) ?hr ?_; (case hd => rfl); (case hg => rfl); (case hr => first | (go_simp; done) | (go_simp; rfl)); intro gb159 hg w6 hbox hb; have n0_ := Aside0.mk (below_step (by repeat (first | (with_reducible first | exact HB.out | apply below_alloc | apply pw_below_drewN | apply below_drew1) | exact HB.out)) hb); have n1_ := Aside0.mk (hbox); have n2_ := Aside0.mk ((by rw [hg]; exact (below_size (by repeat (first | (with_reducible first | exact HB.out | apply below_alloc | apply pw_below_drewN | apply below_drew1) | exact HB.out))) : w.heap.size ≤ gb159)); have n3_ := Aside0.mk ((by rw [hg]; exact (below_size (by repeat (first | (with_reducible first | exact HB.out | apply below_alloc | apply pw_below_drewN | apply below_drew1) | exact HB.out))) : w.heap.size ≤ gb159)); clear HB; have HB := n0_; have BK159 := n1_; have GW159 := n2_; have GE159 := n3_; clear n0_ n1_ n2_ n3_; clear hb hbox hg))
  have n0_ := Aside0.mk (blk_drew BK159.out)
  have n1_ := Aside0.mk (below_drew1 HB.out)
  clear BK159
  clear HB
  have BK159 := n0_
  have HB := n1_
  clear n0_ n1_
  refine start_ (n := 8) (S := fun w' => w'.cell? ⟨gb159, 0, none⟩ = some (.bool a2_0) ∧ w'.cell? ⟨gb159, 1, none⟩ = some (.bool a2_1) ∧ w'.cell? ⟨gb159, 2, none⟩ = some (.bool a2_2) ∧ w'.cell? ⟨gb159, 3, none⟩ = some (.bool a2_3) ∧ w'.cell? ⟨gb159, 4, none⟩ = some (.bool a2_4) ∧ w'.cell? ⟨gb159, 5, none⟩ = some (.bool a2_5)) (ds := []) #[false, false, false, false, false, false, false, false] (by kernel_rfl) rfl rfl ⟨(blk_cell BK159.out 0).trans rfl, (blk_cell BK159.out 1).trans rfl, (blk_cell BK159.out 2).trans rfl, (blk_cell BK159.out 3).trans rfl, (blk_cell BK159.out 4).trans rfl, (blk_cell BK159.out 5).trans rfl⟩ (fun hHeld => ?_); refine with_tabW redlineref03_Equal.tab1 redlineref03_Equal.bits1 (fun HT_ HW_ => ?_)
  generalize w6.drew = w7 at BK159 HB hHeld ⊢
  refine pure_ (i := 0) (N := some 7) (v := ?_) (a' := ?_) #[true, false, false, false, false, false, false, false] rfl rfl (any_of HT_.out (by kernel_rfl)) (fun _ _ _ h => h) (Or.inl ⟨by rfl, ?_⟩) ?_ ?_
  rotate_left
  · intro w'
    go_simp
    with_reducible rfl
  rotate_left
  · simp only [Act.put, List.setIfInBounds_toArray, List.set_cons_zero, List.set_cons_succ, i64_w, i32_w]
    rfl
  refine pure_ (i := 3) (N := some 10) (v := ?_) (a' := ?_) #[true, false, false, true, false, false, false, false] rfl rfl (any_of HT_.out (by kernel_rfl)) (fun _ _ _ h => h) (Or.inl ⟨by rfl, ?_⟩) ?_ ?_
  rotate_left
  · intro w'
    go_simp
    with_reducible rfl
  rotate_left
  · simp only [Act.put, List.setIfInBounds_toArray, List.set_cons_zero, List.set_cons_succ, i64_w, i32_w]
    rfl
  refine take_ (i := 1) (N := some 8) (v := ?_) (a' := ?_) #[true, true, false, true, false, false, false, false] rfl rfl (take_ofW HT_.out HW_.out (by kernel_rfl)) (fun _ _ _ h => h) (Or.inl ⟨by rfl, ?_⟩) hHeld ?_ ?_
  rotate_left
  · rintro w' ⟨s0, s1, s2, s3, s4, s5⟩
    go_simp
    with_reducible rfl
  rotate_left
  · simp only [Act.put, List.setIfInBounds_toArray, List.set_cons_zero, List.set_cons_succ, i64_w, i32_w]
    rfl
  refine take_ (i := 4) (N := some 11) (v := ?_) (a' := ?_) #[true, true, false, true, true, false, false, false] rfl rfl (take_ofW HT_.out HW_.out (by kernel_rfl)) (fun _ _ _ h => h) (Or.inl ⟨by rfl, ?_⟩) hHeld ?_ ?_
  rotate_left
  · rintro w' ⟨s0, s1, s2, s3, s4, s5⟩
    go_simp
    with_reducible rfl
  rotate_left
  · simp only [Act.put, List.setIfInBounds_toArray, List.set_cons_zero, List.set_cons_succ, i64_w, i32_w]
    rfl
  refine one_ (i := 2) (N := some 9) #[true, true, true, true, true, false, false, false] rfl rfl (one_of HT_.out (by kernel_rfl)) (by decide) (fun K hK => ?_)
  refine goes_ Tryd.func52 (by kernel_rfl) rfl #[.string a0, .agg #[.bool a2_0, .bool a2_1, .bool a2_2, .bool a2_3, .bool a2_4, .bool a2_5]] (by rfl) rfl rfl (by (try simp only [List.map_toArray, List.map_cons, List.map_nil]); first | done | rfl | (simp only [List.length_drop, List.length_take]; rfl)) ?_
  with_reducible refine (redlineref03_Canon.calls k a0 a2_0 a2_1 a2_2 a2_3 a2_4 a2_5 t160 _ A4.out).mono ?_
  rintro e w8 ⟨rfl, hb⟩
  refine ⟨_, rfl, ?_⟩
  have n0_ := Aside0.mk (blk_below (g := gb159) (o := .cells #[.bool a2_0, .bool a2_1, .bool a2_2, .bool a2_3, .bool a2_4, .bool a2_5] 23 (0, 0)) (by (with_reducible repeat (first | refine blk_drewN ?_ _ | refine blk_drew ?_ | refine blk_alloc ?_ _)); exact BK159.out) hb)
  have n1_ := Aside0.mk (below_step (by repeat (first | (with_reducible first | exact HB.out | apply below_alloc | apply pw_below_drewN | apply below_drew1 | refine below_set ?_ GE159.out) | exact HB.out)) hb)
  clear BK159
  clear HB
  have BK159 := n0_
  have HB := n1_
  clear n0_ n1_
  (try clear hb)
  (try clear hb2)
  (try clear hk)
  (try clear hi)
  refine hK.out _ _ ⟨(blk_cell BK159.out 0).trans rfl, (blk_cell BK159.out 1).trans rfl, (blk_cell BK159.out 2).trans rfl, (blk_cell BK159.out 3).trans rfl, (blk_cell BK159.out 4).trans rfl, (blk_cell BK159.out 5).trans rfl⟩ (fun hHeld => ?_)
  clear hK K
  refine norm_ (a' := ?_) ?_ ?_
  rotate_left
  · show Act.put _ (some 9) _ = _
    simp only [Act.put, List.setIfInBounds_toArray, List.set_cons_zero, List.set_cons_succ, i64_w, i32_w]
    rfl
  refine one_ (i := 5) (N := some 12) #[true, true, true, true, true, true, false, false] rfl rfl (one_of HT_.out (by kernel_rfl)) (by decide) (fun K hK => ?_)
  refine goes_ Tryd.func52 (by kernel_rfl) rfl #[.string a1, .agg #[.bool a2_0, .bool a2_1, .bool a2_2, .bool a2_3, .bool a2_4, .bool a2_5]] (by rfl) rfl rfl (by (try simp only [List.map_toArray, List.map_cons, List.map_nil]); first | done | rfl | (simp only [List.length_drop, List.length_take]; rfl)) ?_
  with_reducible refine (redlineref03_Canon.calls k a1 a2_0 a2_1 a2_2 a2_3 a2_4 a2_5 t161 _ A5.out).mono ?_
  rintro e w9 ⟨rfl, hb⟩
  refine ⟨_, rfl, ?_⟩
  have n0_ := Aside0.mk (blk_below (g := gb159) (o := .cells #[.bool a2_0, .bool a2_1, .bool a2_2, .bool a2_3, .bool a2_4, .bool a2_5] 23 (0, 0)) (by (with_reducible repeat (first | refine blk_drewN ?_ _ | refine blk_drew ?_ | refine blk_alloc ?_ _)); exact BK159.out) hb)
  have n1_ := Aside0.mk (below_step (by repeat (first | (with_reducible first | exact HB.out | apply below_alloc | apply pw_below_drewN | apply below_drew1 | refine below_set ?_ GE159.out) | exact HB.out)) hb)
  clear BK159
  clear HB
  have BK159 := n0_
  have HB := n1_
  clear n0_ n1_
  (try clear hb)
  (try clear hb2)
  (try clear hk)
  (try clear hi)
  refine hK.out _ _ ⟨(blk_cell BK159.out 0).trans rfl, (blk_cell BK159.out 1).trans rfl, (blk_cell BK159.out 2).trans rfl, (blk_cell BK159.out 3).trans rfl, (blk_cell BK159.out 4).trans rfl, (blk_cell BK159.out 5).trans rfl⟩ (fun hHeld => ?_)
  clear hK K
  refine norm_ (a' := ?_) ?_ ?_
  rotate_left
  · show Act.put _ (some 12) _ = _
    simp only [Act.put, List.setIfInBounds_toArray, List.set_cons_zero, List.set_cons_succ, i64_w, i32_w]
    rfl
  refine pure_ (i := 6) (N := some 13) (v := ?_) (a' := ?_) #[true, true, true, true, true, true, true, false] rfl rfl (any_of HT_.out (by kernel_rfl)) (fun _ _ _ h => h) (Or.inl ⟨by rfl, ?_⟩) ?_ ?_
  rotate_left
  · intro w'
    go_simp
    with_reducible rfl
  rotate_left
  · simp only [Act.put, List.setIfInBounds_toArray, List.set_cons_zero, List.set_cons_succ, i64_w, i32_w]
    rfl
  refine pure_ (i := 7) (N := some 6) (v := ?_) (a' := ?_) #[true, true, true, true, true, true, true, true] rfl rfl (any_of HT_.out (by kernel_rfl)) (fun _ _ _ h => h) (Or.inl ⟨by rfl, ?_⟩) ?_ ?_
  rotate_left
  · intro w'
    go_simp
    with_reducible rfl
  rotate_left
  · simp only [Act.put, List.setIfInBounds_toArray, List.set_cons_zero, List.set_cons_succ, i64_w, i32_w]
    rfl
  refine done_ (done_of HT_.out (by kernel_rfl)) ?_
  try go_wp2
  go_ret
  exact ⟨by first | rfl | (simp [errW_none, errW_some] <;> rfl) | (simp [*, errW_none, errW_some] <;> rfl), by repeat (first | (with_reducible first | exact HB.out | apply below_alloc | apply pw_below_drewN | apply below_drew1 | refine below_set ?_ GE159.out) | exact HB.out)⟩

-- NOT PRINTED: function 13 (redlineref04_Table_Look)

-- NOT PRINTED: function 14 (intern_Table_Class)

-- NOT PRINTED: function 15 (redlineref04_Table_Class)

-- NOT PRINTED: function 4 (redlinelaw04_InternTables)

end Go.Proofs.YtmjbhjmgecabbaaDoor.R03
