/- strings.IndexRune and strings.ContainsRune at canon's white space, whatever the rune; canon.white. -/
import Derived.Test.YtmjbhjmgecabbaaDoorProg
import Derived.Test.YtmjbhjmgecabbaaDoorShelf2
import Derived.WalkKit
import Derived.WalkSpells
import Derived.BigQuiet
import Derived.Outline
import Derived.Test.YtmjbhjmgecabbaaDoorWMore
namespace Go.Proofs.YtmjbhjmgecabbaaDoor
open Go.RowKit YtmjbhjmgecabbaaDoorW.PrintWords
def spaceS : ByteArray := ⟨#[32, 9, 11, 12, 13]⟩
theorem next_at (w : World) (s : ByteArray) (c : Nat) (pos : Nat) (h : pos < s.size) (hc : (s[pos]'h).toNat = c) (ha : c < 128) (ty : TypeId) :
    (Instr.next (.pointer (some ⟨w.heap.size, 0, none⟩)) true ty).run Tryd.prog (w.iter s pos) = .ok (.tuple #[.bool true, .int .i64 pos, .int .i32 c]) (w.iter s (pos + 1)) := by
  rw [run_next_ascii w s pos ty h (by omega), hc]
set_option maxHeartbeats 1000000 in
set_option maxRecDepth 100000 in
theorem indexRune_err (w : World) : Calls Tryd.prog 108 #[.string ⟨#[32, 9, 11, 12, 13]⟩, .int .i32 65533] w fun e w' => e = .returned (.int .i64 (-1)) ∧ Below w.heap.size w w' := by
  have n0 := next_at w ⟨#[32, 9, 11, 12, 13]⟩ 32 0 (by decide) rfl (by decide)
  have n1 := next_at w ⟨#[32, 9, 11, 12, 13]⟩ 9 1 (by decide) rfl (by decide)
  have n2 := next_at w ⟨#[32, 9, 11, 12, 13]⟩ 11 2 (by decide) rfl (by decide)
  have n3 := next_at w ⟨#[32, 9, 11, 12, 13]⟩ 12 3 (by decide) rfl (by decide)
  have n4 := next_at w ⟨#[32, 9, 11, 12, 13]⟩ 13 4 (by decide) rfl (by decide)
  have n5 : ∀ ty, (Instr.next (.pointer (some ⟨w.heap.size, 0, none⟩)) true ty).run Tryd.prog (w.iter ⟨#[32, 9, 11, 12, 13]⟩ 5) = _ := fun ty => run_next_end w ⟨#[32, 9, 11, 12, 13]⟩ 5 ty (by decide)
  go_enter Tryd.func108, Tryd.ntmps108
  go_wp2_with fail
  refine wp_loop_rounds 6 ?_
  iterate 6 (rw [rounds_succ]; go_wp2_with fail)
  go_ret
  exact ⟨rfl, (Below.refl _ _).alloc (Nat.le_refl _) _⟩
set_option maxHeartbeats 1000000 in
set_option maxRecDepth 100000 in
theorem indexRune_bad (r : Int) (w : World) (h : 128 ≤ r) (h1 : (r == 65533) = false) (hv : Lib.validRune r = false) : Calls Tryd.prog 108 #[.string ⟨#[32, 9, 11, 12, 13]⟩, .int .i32 r] w fun e w' => e = .returned (.int .i64 (-1)) ∧ Below w.heap.size w w' := by
  have h2 : ¬ r < 128 := by omega
  have h0 : 0 ≤ r := by omega
  go_enter Tryd.func108, Tryd.ntmps108
  go_wp2_with (go_at_call 129; refine (Tryd.utf8_ValidRune _ _).mono ?_; rintro e w' ⟨rfl, rfl⟩)
  go_ret
  exact ⟨rfl, Below.refl _ _⟩
theorem indexByte_none (l : List UInt8) (c : UInt8) (h : ∀ x ∈ l, x.toNat < 128) (hc : 128 ≤ c.toNat) : Lib.indexByte l c = -1 := by
  induction l with
  | nil => rfl
  | cons x l ih =>
    have hx := h x (by simp)
    have : (x == c) = false := by
      rw [beq_eq_false_iff_ne]; rintro rfl; omega
    simp [Lib.indexByte, this, ih (fun y hy => h y (by simp [hy]))]
theorem toU8 (b : UInt8) : ((b.toNat : Int).toNat).toUInt8 = b := by
  rw [Int.toNat_natCast]; exact UInt8.ofNat_toNat
set_option maxHeartbeats 1000000 in
set_option maxRecDepth 100000 in
theorem indexRune_two (r : Int) (b0 b1 : UInt8) (w : World) (h : 128 ≤ r) (h1 : (r == 65533) = false) (hv : Lib.validRune r = true) (he : Utf8.encode r = ⟨#[b0, b1]⟩) (hb : 128 ≤ b1.toNat) : Calls Tryd.prog 108 #[.string ⟨#[32, 9, 11, 12, 13]⟩, .int .i32 r] w fun e w' => e = .returned (.int .i64 (-1)) ∧ Below w.heap.size w w' := by
  have h2 : ¬ r < 128 := by omega
  have h0 : 0 ≤ r := by omega
  have hI : ∀ (s : ByteArray), s.data.toList = [11, 12, 13] → ∀ w, Calls Tryd.prog 128 #[.string s, .int .u8 b1.toNat] w fun e w' => e = .returned (.int .i64 (-1)) ∧ w' = w := fun s hs w =>
    (Tryd.strings_IndexByte s _ w).mono fun e w' ⟨h1, h2⟩ => ⟨by rw [h1, toU8, hs, indexByte_none _ _ (by simp) hb], h2⟩
  have hq : ((⟨#[32, 9, 11, 12, 13]⟩ : ByteArray).extract 2 5).data.toList = [11, 12, 13] := by decide
  have hx : ((((⟨#[32, 9, 11, 12, 13]⟩ : ByteArray)[1]'(by decide)).toNat : Int) != (((⟨#[b0, b1]⟩ : ByteArray)[1]'(show 1 < 2 by omega)).toNat : Int)) = true := by
    rw [bne_iff_ne]
    show ((9 : Nat) : Int) ≠ (b1.toNat : Int)
    omega
  go_enter Tryd.func108, Tryd.ntmps108
  go_wp2_with (go_at_call 129; refine (Tryd.utf8_ValidRune _ _).mono ?_; rintro e w' ⟨rfl, rfl⟩)
  go_step3
  go_wp2_with fail
  refine wp_loop_rounds 1 ?_
  rw [rounds_succ]
  go_wp2_with fail
  go_step3
  go_wp2_with fail
  go_quiet (fail)
  have hb1 := pw_below_drewN (Below.refl w'.heap.size w') nq
  generalize w'.drewN nq = W at *
  go_wp2_with fail
  go_quiet ((go_at_call 128; exact Calls.quiet_of_same (hI _ hq _)))
  go_wp2_with fail
  simp only [Exit.noGoto_ret, Exit.inBlock, Exit.then]
  go_ret
  exact ⟨rfl, pw_below_drewN hb1 _⟩
set_option maxHeartbeats 1000000 in
set_option maxRecDepth 100000 in
theorem indexRune_three (r : Int) (b0 b1 b2 : UInt8) (w : World) (h : 128 ≤ r) (h1 : (r == 65533) = false) (hv : Lib.validRune r = true) (he : Utf8.encode r = ⟨#[b0, b1, b2]⟩) (hb : 128 ≤ b2.toNat) : Calls Tryd.prog 108 #[.string ⟨#[32, 9, 11, 12, 13]⟩, .int .i32 r] w fun e w' => e = .returned (.int .i64 (-1)) ∧ Below w.heap.size w w' := by
  have h2 : ¬ r < 128 := by omega
  have h0 : 0 ≤ r := by omega
  have hI : ∀ (s : ByteArray), s.data.toList = [12, 13] → ∀ w, Calls Tryd.prog 128 #[.string s, .int .u8 b2.toNat] w fun e w' => e = .returned (.int .i64 (-1)) ∧ w' = w := fun s hs w =>
    (Tryd.strings_IndexByte s _ w).mono fun e w' ⟨h1, h2⟩ => ⟨by rw [h1, toU8, hs, indexByte_none _ _ (by simp) hb], h2⟩
  have hq : ((⟨#[32, 9, 11, 12, 13]⟩ : ByteArray).extract 3 5).data.toList = [12, 13] := by decide
  have hx : ((((⟨#[32, 9, 11, 12, 13]⟩ : ByteArray)[2]'(by decide)).toNat : Int) != (((⟨#[b0, b1, b2]⟩ : ByteArray)[2]'(show 2 < 3 by omega)).toNat : Int)) = true := by
    rw [bne_iff_ne]
    show ((11 : Nat) : Int) ≠ (b2.toNat : Int)
    omega
  go_enter Tryd.func108, Tryd.ntmps108
  go_wp2_with (go_at_call 129; refine (Tryd.utf8_ValidRune _ _).mono ?_; rintro e w' ⟨rfl, rfl⟩)
  go_step3
  go_wp2_with fail
  refine wp_loop_rounds 1 ?_
  rw [rounds_succ]
  go_wp2_with fail
  go_step3
  go_wp2_with fail
  go_quiet (fail)
  have hb1 := pw_below_drewN (Below.refl w'.heap.size w') nq
  generalize w'.drewN nq = W at *
  go_wp2_with fail
  go_quiet ((go_at_call 128; exact Calls.quiet_of_same (hI _ hq _)))
  go_wp2_with fail
  simp only [Exit.noGoto_ret, Exit.inBlock, Exit.then]
  go_ret
  exact ⟨rfl, pw_below_drewN hb1 _⟩
set_option maxHeartbeats 1000000 in
set_option maxRecDepth 100000 in
theorem indexRune_four (r : Int) (b0 b1 b2 b3 : UInt8) (w : World) (h : 128 ≤ r) (h1 : (r == 65533) = false) (hv : Lib.validRune r = true) (he : Utf8.encode r = ⟨#[b0, b1, b2, b3]⟩) (hb : 128 ≤ b3.toNat) : Calls Tryd.prog 108 #[.string ⟨#[32, 9, 11, 12, 13]⟩, .int .i32 r] w fun e w' => e = .returned (.int .i64 (-1)) ∧ Below w.heap.size w w' := by
  have h2 : ¬ r < 128 := by omega
  have h0 : 0 ≤ r := by omega
  have hI : ∀ (s : ByteArray), s.data.toList = [13] → ∀ w, Calls Tryd.prog 128 #[.string s, .int .u8 b3.toNat] w fun e w' => e = .returned (.int .i64 (-1)) ∧ w' = w := fun s hs w =>
    (Tryd.strings_IndexByte s _ w).mono fun e w' ⟨h1, h2⟩ => ⟨by rw [h1, toU8, hs, indexByte_none _ _ (by simp) hb], h2⟩
  have hq : ((⟨#[32, 9, 11, 12, 13]⟩ : ByteArray).extract 4 5).data.toList = [13] := by decide
  have hx : ((((⟨#[32, 9, 11, 12, 13]⟩ : ByteArray)[3]'(by decide)).toNat : Int) != (((⟨#[b0, b1, b2, b3]⟩ : ByteArray)[3]'(show 3 < 4 by omega)).toNat : Int)) = true := by
    rw [bne_iff_ne]
    show ((12 : Nat) : Int) ≠ (b3.toNat : Int)
    omega
  go_enter Tryd.func108, Tryd.ntmps108
  go_wp2_with (go_at_call 129; refine (Tryd.utf8_ValidRune _ _).mono ?_; rintro e w' ⟨rfl, rfl⟩)
  go_step3
  go_wp2_with fail
  refine wp_loop_rounds 1 ?_
  rw [rounds_succ]
  go_wp2_with fail
  go_step3
  go_wp2_with fail
  go_quiet (fail)
  have hb1 := pw_below_drewN (Below.refl w'.heap.size w') nq
  generalize w'.drewN nq = W at *
  go_wp2_with fail
  go_quiet ((go_at_call 128; exact Calls.quiet_of_same (hI _ hq _)))
  go_wp2_with fail
  simp only [Exit.noGoto_ret, Exit.inBlock, Exit.then]
  go_ret
  exact ⟨rfl, pw_below_drewN hb1 _⟩
set_option maxRecDepth 100000 in
theorem indexRune_far (r : Nat) (w : World) (h : 128 ≤ r) (hr : r ≤ 1114111) : Calls Tryd.prog 108 #[.string ⟨#[32, 9, 11, 12, 13]⟩, .int .i32 r] w fun e w' => e = .returned (.int .i64 (-1)) ∧ Below w.heap.size w w' := by
  by_cases he : r = 65533
  · have e : ((r : Nat) : Int) = 65533 := (congrArg Nat.cast he).trans rfl
    rw [e]; exact indexRune_err w
  · have h1 : (((r : Nat) : Int) == 65533) = false := by rw [beq_eq_false_iff_ne]; omega
    cases hv : Lib.validRune (r : Int) with
    | false => exact indexRune_bad r w (by omega) h1 hv
    | true =>
      have hb : ∀ n : Nat, n < 64 → 128 ≤ (UInt8.ofNat (0x80 + n)).toNat := fun n hn => by
        rw [UInt8.toNat_ofNat']; omega
      have hvr : Utf8.valid (r : Int) = true := by
        simp only [Lib.validRune, Utf8.valid, Bool.or_eq_true, Bool.and_eq_true, decide_eq_true_eq] at hv ⊢
        omega
      by_cases h2 : r < 2048
      · exact indexRune_two r _ _ w (by omega) h1 hv (by simp only [Utf8.encode, hvr, if_true, Int.toNat_natCast]; rw [if_neg (by omega), if_pos h2]) (hb _ (Nat.mod_lt _ (by omega)))
      · by_cases h3 : r < 65536
        · exact indexRune_three r _ _ _ w (by omega) h1 hv (by simp only [Utf8.encode, hvr, if_true, Int.toNat_natCast]; rw [if_neg (by omega), if_neg h2, if_pos h3]) (hb _ (Nat.mod_lt _ (by omega)))
        · exact indexRune_four r _ _ _ _ w (by omega) h1 hv (by simp only [Utf8.encode, hvr, if_true, Int.toNat_natCast]; rw [if_neg (by omega), if_neg h2, if_neg h3]) (hb _ (Nat.mod_lt _ (by omega)))
/-- what of a rune is white space -/
def wspN (r : Nat) : Bool := r == 32 || r == 9 || r == 11 || r == 12 || r == 13
set_option maxRecDepth 100000 in
theorem containsRune_any (r : Nat) (w : World) (hr : r ≤ 1114111) : Calls Tryd.prog 88 #[.string ⟨#[32, 9, 11, 12, 13]⟩, .int .i32 r] w fun e w' => e = .returned (.bool (wspN r)) ∧ Below w.heap.size w w' := by
  by_cases h : r < 128
  · refine (Tryd.strings_ContainsRune_ascii _ _ _ (by omega) (by omega)).mono fun e w' ⟨he, hw⟩ => ⟨?_, hw ▸ Below.refl _ _⟩
    rw [he]
    have : ∀ n : Fin 128, decide (0 ≤ Lib.indexByte [32, 9, 11, 12, 13] (n.val : Int).toNat.toUInt8) = wspN n.val := by decide +kernel
    exact congrArg (fun b => Ending.returned (.bool b)) (this ⟨r, h⟩)
  · have hw : wspN r = false := by simp [wspN]; omega
    rw [hw]
    go_enter Tryd.func88, Tryd.ntmps88
    go_wp2_with (go_at_call 108; refine (indexRune_far r _ (by omega) hr).mono ?_; rintro e w' ⟨rfl, hb⟩)
    go_ret
    exact ⟨rfl, hb⟩
set_option maxRecDepth 100000 in
theorem white_any (r : Nat) (w : World) (hr : r ≤ 1114111) : Calls Tryd.prog 96 #[.int .i32 r] w fun e w' => e = .returned (.bool (wspN r)) ∧ Below w.heap.size w w' := by
  go_enter Tryd.func96, Tryd.ntmps96
  go_wp2_with (go_at_call 88; refine (containsRune_any r _ hr).mono ?_; rintro e w' ⟨rfl, hb⟩)
  go_ret
  exact ⟨rfl, hb⟩
end Go.Proofs.YtmjbhjmgecabbaaDoor
