-- Printed by wip/printx.py out of the translation; Lean checks it.
import Derived.Test.YtmjbhjmgecabbaaDoorY030
import Derived.Test.YtmjbhjmgecabbaaDoorExt03
namespace Go.Proofs.YtmjbhjmgecabbaaDoor.Y03
open Go.RowKit Go.Proofs.YtmjbhjmgecabbaaDoorW.PrintWords Go.Proofs.YtmjbhjmgecabbaaDoorW.PrintLast Go.Proofs.YtmjbhjmgecabbaaDoorW.PrintMore Go.Proofs.YtmjbhjmgecabbaaDoor
attribute [local go_sem] max2_int min2_int max_two min_two max_three min_three max_four min_four   -- for this text's walks alone
set_option linter.unusedVariables false
set_option linter.unusedSimpArgs false

/-! ### redlinelaw03_works: function 8 -/
def redlinelaw03_works.f  : Option (Bool) := (canon_Canon.f (⟨#[32, 65, 9, 32, 98, 32, 10]⟩ : ByteArray) true false false false false false).bind fun t101 => (if t101.toList = ([32, 65, 32, 98, 10] : List UInt8) then ((canon_Canon.f (⟨#[32, 65, 9, 32, 98, 32, 10]⟩ : ByteArray) false true false true false false).bind fun t102 => (if t102.toList = ([97, 98, 10] : List UInt8) then ((canon_Blank.f (⟨#[32, 10]⟩ : ByteArray) false false false false false true).bind fun t103 => (if t103 = true then ((canon_Equal.f (⟨#[97]⟩ : ByteArray) (⟨#[97, 10]⟩ : ByteArray) false true false false false false).bind fun t104 => (some (!t104))) else (some false))) else (some false))) else (some false))
set_option maxHeartbeats 8000000 in
set_option maxRecDepth 100000 in
theorem redlinelaw03_works.calls  (r : Bool) (w : World) (h : redlinelaw03_works.f  = some r) :
    Calls Tryd.prog 8 #[] w fun e w' => e = .returned (.bool r) ∧ Below w.heap.size w w' := by
  have hu23 := Tryd.underlying23
  have HB := Aside0.mk (Below.refl w.heap.size w)
  have H : ((canon_Canon.f (⟨#[32, 65, 9, 32, 98, 32, 10]⟩ : ByteArray) true false false false false false).bind fun t101 => (if t101.toList = ([32, 65, 32, 98, 10] : List UInt8) then ((canon_Canon.f (⟨#[32, 65, 9, 32, 98, 32, 10]⟩ : ByteArray) false true false true false false).bind fun t102 => (if t102.toList = ([97, 98, 10] : List UInt8) then ((canon_Blank.f (⟨#[32, 10]⟩ : ByteArray) false false false false false true).bind fun t103 => (if t103 = true then ((canon_Equal.f (⟨#[97]⟩ : ByteArray) (⟨#[97, 10]⟩ : ByteArray) false true false false false false).bind fun t104 => (some (!t104))) else (some false))) else (some false))) else (some false))) = some r := h
  clear h
  replace H := Option.bind_eq_some_iff.mp H
  obtain ⟨t101, A10, H⟩ := H
  replace H : (if t101.toList = ([32, 65, 32, 98, 10] : List UInt8) then ((canon_Canon.f (⟨#[32, 65, 9, 32, 98, 32, 10]⟩ : ByteArray) false true false true false false).bind fun t102 => (if t102.toList = ([97, 98, 10] : List UInt8) then ((canon_Blank.f (⟨#[32, 10]⟩ : ByteArray) false false false false false true).bind fun t103 => (if t103 = true then ((canon_Equal.f (⟨#[97]⟩ : ByteArray) (⟨#[97, 10]⟩ : ByteArray) false true false false false false).bind fun t104 => (some (!t104))) else (some false))) else (some false))) else (some false)) = some r := H
  have A1 := Aside0.mk A10
  clear A10
  by_cases c2 : t101.toList = ([32, 65, 32, 98, 10] : List UInt8)
  · rw [if_pos c2] at H
    have c2b0 : (t101.toList == ([32, 65, 32, 98, 10] : List UInt8)) = true := beq_iff_eq.mpr c2
    have c2b1 : (t101.toList != ([32, 65, 32, 98, 10] : List UInt8)) = false := bne_eq_false_iff_eq.mpr c2
    clear c2
    replace H := Option.bind_eq_some_iff.mp H
    obtain ⟨t102, A30, H⟩ := H
    replace H : (if t102.toList = ([97, 98, 10] : List UInt8) then ((canon_Blank.f (⟨#[32, 10]⟩ : ByteArray) false false false false false true).bind fun t103 => (if t103 = true then ((canon_Equal.f (⟨#[97]⟩ : ByteArray) (⟨#[97, 10]⟩ : ByteArray) false true false false false false).bind fun t104 => (some (!t104))) else (some false))) else (some false)) = some r := H
    have A3 := Aside0.mk A30
    clear A30
    by_cases c4 : t102.toList = ([97, 98, 10] : List UInt8)
    · rw [if_pos c4] at H
      have c4b0 : (t102.toList == ([97, 98, 10] : List UInt8)) = true := beq_iff_eq.mpr c4
      have c4b1 : (t102.toList != ([97, 98, 10] : List UInt8)) = false := bne_eq_false_iff_eq.mpr c4
      clear c4
      replace H := Option.bind_eq_some_iff.mp H
      obtain ⟨t103, A50, H⟩ := H
      replace H : (if t103 = true then ((canon_Equal.f (⟨#[97]⟩ : ByteArray) (⟨#[97, 10]⟩ : ByteArray) false true false false false false).bind fun t104 => (some (!t104))) else (some false)) = some r := H
      have A5 := Aside0.mk A50
      clear A50
      by_cases c6 : t103 = true
      · subst c6
        have H1 : ((canon_Equal.f (⟨#[97]⟩ : ByteArray) (⟨#[97, 10]⟩ : ByteArray) false true false false false false).bind fun t104 => (some (!t104))) = some r := by rw [if_pos rfl] at H; exact H
        clear H
        have H := H1
        clear H1
        replace H := Option.bind_eq_some_iff.mp H
        obtain ⟨t104, A70, H⟩ := H
        replace H : (some (!t104)) = some r := H
        have A7 := Aside0.mk A70
        clear A70
        obtain rfl := Option.some.inj H
        go_enter Tryd.func8, Tryd.ntmps8
        go_wp2_with (first | ((with_reducible refine gate_callee (f := 29) rfl ?_); refine goesL_ (some 2) rfl rfl Tryd.func29 (by kernel_rfl) rfl #[.string (⟨#[32, 65, 9, 32, 98, 32, 10]⟩ : ByteArray), .agg #[.bool true, .bool false, .bool false, .bool false, .bool false, .bool false]] rfl (by (try simp only [List.map_toArray, List.map_cons, List.map_nil]); first | done | rfl | (simp only [List.length_drop, List.length_take]; rfl)) ?_; (with_reducible refine (canon_Canon.calls (⟨#[32, 65, 9, 32, 98, 32, 10]⟩ : ByteArray) true false false false false false t101 _ A1.out).mono ?_); rintro e w8 ⟨rfl, hb⟩; refine ⟨_, rfl, ?_⟩; have n0_ := Aside0.mk (below_step (by repeat (first | (with_reducible first | exact HB.out | apply below_alloc | apply pw_below_drewN | apply below_drew1) | exact HB.out)) hb); clear HB; have HB := n0_; clear n0_; (try clear hb); (try clear hb2); (try clear hk); (try clear hi)) | (go_at_call 29; (with_reducible refine (canon_Canon.calls (⟨#[32, 65, 9, 32, 98, 32, 10]⟩ : ByteArray) false true false true false false t102 _ A3.out).mono ?_); rintro e w9 ⟨rfl, hb⟩; have n0_ := Aside0.mk (below_step (by repeat (first | (with_reducible first | exact HB.out | apply below_alloc | apply pw_below_drewN | apply below_drew1) | exact HB.out)) hb); clear HB; have HB := n0_; clear n0_; (try clear hb); (try clear hb2); (try clear hk); (try clear hi)) | (go_at_call 30; (with_reducible refine (canon_Blank.calls (⟨#[32, 10]⟩ : ByteArray) false false false false false true true _ A5.out).mono ?_); rintro e w10 ⟨rfl, hb⟩; have n0_ := Aside0.mk (below_step (by repeat (first | (with_reducible first | exact HB.out | apply below_alloc | apply pw_below_drewN | apply below_drew1) | exact HB.out)) hb); clear HB; have HB := n0_; clear n0_; (try clear hb); (try clear hb2); (try clear hk); (try clear hi)) | (go_at_call 9; (with_reducible refine (canon_Equal.calls (⟨#[97]⟩ : ByteArray) (⟨#[97, 10]⟩ : ByteArray) false true false false false false t104 _ A7.out).mono ?_); rintro e w11 ⟨rfl, hb⟩; have n0_ := Aside0.mk (below_step (by repeat (first | (with_reducible first | exact HB.out | apply below_alloc | apply pw_below_drewN | apply below_drew1) | exact HB.out)) hb); clear HB; have HB := n0_; clear n0_; (try clear hb); (try clear hb2); (try clear hk); (try clear hi)))
        go_ret
        exact ⟨by first | rfl | (simp [errW_none, errW_some] <;> rfl) | (simp [*, errW_none, errW_some] <;> rfl), by repeat (first | (with_reducible first | exact HB.out | apply below_alloc | apply pw_below_drewN | apply below_drew1) | exact HB.out)⟩
      · replace c6 := Bool.eq_false_iff.mpr c6
        subst c6
        have H1 : (some false) = some r := by rw [if_neg (show ¬ (false = true) by decide)] at H; exact H
        clear H
        have H := H1
        clear H1
        obtain rfl := Option.some.inj H
        go_enter Tryd.func8, Tryd.ntmps8
        go_wp2_with (first | ((with_reducible refine gate_callee (f := 29) rfl ?_); refine goesL_ (some 2) rfl rfl Tryd.func29 (by kernel_rfl) rfl #[.string (⟨#[32, 65, 9, 32, 98, 32, 10]⟩ : ByteArray), .agg #[.bool true, .bool false, .bool false, .bool false, .bool false, .bool false]] rfl (by (try simp only [List.map_toArray, List.map_cons, List.map_nil]); first | done | rfl | (simp only [List.length_drop, List.length_take]; rfl)) ?_; (with_reducible refine (canon_Canon.calls (⟨#[32, 65, 9, 32, 98, 32, 10]⟩ : ByteArray) true false false false false false t101 _ A1.out).mono ?_); rintro e w12 ⟨rfl, hb⟩; refine ⟨_, rfl, ?_⟩; have n0_ := Aside0.mk (below_step (by repeat (first | (with_reducible first | exact HB.out | apply below_alloc | apply pw_below_drewN | apply below_drew1) | exact HB.out)) hb); clear HB; have HB := n0_; clear n0_; (try clear hb); (try clear hb2); (try clear hk); (try clear hi)) | (go_at_call 29; (with_reducible refine (canon_Canon.calls (⟨#[32, 65, 9, 32, 98, 32, 10]⟩ : ByteArray) false true false true false false t102 _ A3.out).mono ?_); rintro e w13 ⟨rfl, hb⟩; have n0_ := Aside0.mk (below_step (by repeat (first | (with_reducible first | exact HB.out | apply below_alloc | apply pw_below_drewN | apply below_drew1) | exact HB.out)) hb); clear HB; have HB := n0_; clear n0_; (try clear hb); (try clear hb2); (try clear hk); (try clear hi)) | (go_at_call 30; (with_reducible refine (canon_Blank.calls (⟨#[32, 10]⟩ : ByteArray) false false false false false true false _ A5.out).mono ?_); rintro e w14 ⟨rfl, hb⟩; have n0_ := Aside0.mk (below_step (by repeat (first | (with_reducible first | exact HB.out | apply below_alloc | apply pw_below_drewN | apply below_drew1) | exact HB.out)) hb); clear HB; have HB := n0_; clear n0_; (try clear hb); (try clear hb2); (try clear hk); (try clear hi)))
        go_ret
        exact ⟨by first | rfl | (simp [errW_none, errW_some] <;> rfl) | (simp [*, errW_none, errW_some] <;> rfl), by repeat (first | (with_reducible first | exact HB.out | apply below_alloc | apply pw_below_drewN | apply below_drew1) | exact HB.out)⟩
    · rw [if_neg c4] at H
      have c4b0 : (t102.toList == ([97, 98, 10] : List UInt8)) = false := beq_eq_false_iff_ne.mpr c4
      have c4b1 : (t102.toList != ([97, 98, 10] : List UInt8)) = true := bne_iff_ne.mpr c4
      obtain rfl := Option.some.inj H
      go_enter Tryd.func8, Tryd.ntmps8
      go_wp2_with (first | ((with_reducible refine gate_callee (f := 29) rfl ?_); refine goesL_ (some 2) rfl rfl Tryd.func29 (by kernel_rfl) rfl #[.string (⟨#[32, 65, 9, 32, 98, 32, 10]⟩ : ByteArray), .agg #[.bool true, .bool false, .bool false, .bool false, .bool false, .bool false]] rfl (by (try simp only [List.map_toArray, List.map_cons, List.map_nil]); first | done | rfl | (simp only [List.length_drop, List.length_take]; rfl)) ?_; (with_reducible refine (canon_Canon.calls (⟨#[32, 65, 9, 32, 98, 32, 10]⟩ : ByteArray) true false false false false false t101 _ A1.out).mono ?_); rintro e w15 ⟨rfl, hb⟩; refine ⟨_, rfl, ?_⟩; have n0_ := Aside0.mk (below_step (by repeat (first | (with_reducible first | exact HB.out | apply below_alloc | apply pw_below_drewN | apply below_drew1) | exact HB.out)) hb); clear HB; have HB := n0_; clear n0_; (try clear hb); (try clear hb2); (try clear hk); (try clear hi)) | (go_at_call 29; (with_reducible refine (canon_Canon.calls (⟨#[32, 65, 9, 32, 98, 32, 10]⟩ : ByteArray) false true false true false false t102 _ A3.out).mono ?_); rintro e w16 ⟨rfl, hb⟩; have n0_ := Aside0.mk (below_step (by repeat (first | (with_reducible first | exact HB.out | apply below_alloc | apply pw_below_drewN | apply below_drew1) | exact HB.out)) hb); clear HB; have HB := n0_; clear n0_; (try clear hb); (try clear hb2); (try clear hk); (try clear hi)))
      go_ret
      exact ⟨by first | rfl | (simp [errW_none, errW_some] <;> rfl) | (simp [*, errW_none, errW_some] <;> rfl), by repeat (first | (with_reducible first | exact HB.out | apply below_alloc | apply pw_below_drewN | apply below_drew1) | exact HB.out)⟩
  · rw [if_neg c2] at H
    have c2b0 : (t101.toList == ([32, 65, 32, 98, 10] : List UInt8)) = false := beq_eq_false_iff_ne.mpr c2
    have c2b1 : (t101.toList != ([32, 65, 32, 98, 10] : List UInt8)) = true := bne_iff_ne.mpr c2
    obtain rfl := Option.some.inj H
    go_enter Tryd.func8, Tryd.ntmps8
    go_wp2_with (first | ((with_reducible refine gate_callee (f := 29) rfl ?_); refine goesL_ (some 2) rfl rfl Tryd.func29 (by kernel_rfl) rfl #[.string (⟨#[32, 65, 9, 32, 98, 32, 10]⟩ : ByteArray), .agg #[.bool true, .bool false, .bool false, .bool false, .bool false, .bool false]] rfl (by (try simp only [List.map_toArray, List.map_cons, List.map_nil]); first | done | rfl | (simp only [List.length_drop, List.length_take]; rfl)) ?_; (with_reducible refine (canon_Canon.calls (⟨#[32, 65, 9, 32, 98, 32, 10]⟩ : ByteArray) true false false false false false t101 _ A1.out).mono ?_); rintro e w17 ⟨rfl, hb⟩; refine ⟨_, rfl, ?_⟩; have n0_ := Aside0.mk (below_step (by repeat (first | (with_reducible first | exact HB.out | apply below_alloc | apply pw_below_drewN | apply below_drew1) | exact HB.out)) hb); clear HB; have HB := n0_; clear n0_; (try clear hb); (try clear hb2); (try clear hk); (try clear hi)))
    go_ret
    exact ⟨by first | rfl | (simp [errW_none, errW_some] <;> rfl) | (simp [*, errW_none, errW_some] <;> rfl), by repeat (first | (with_reducible first | exact HB.out | apply below_alloc | apply pw_below_drewN | apply below_drew1) | exact HB.out)⟩

end Go.Proofs.YtmjbhjmgecabbaaDoor.Y03
