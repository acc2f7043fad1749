/- canon.Canon, Equal, Blank. -/
import Derived.Test.YtmjbhjmgecabbaaDoorText
import Derived.Deep.RegionHeld3
namespace Go.Proofs.YtmjbhjmgecabbaaDoor
open Go.RowKit YtmjbhjmgecabbaaDoorW.PrintWords

theorem canonF_le (o : Ign) (s : List UInt8) : (canonF o s).length ≤ 8 * s.length + 1 := by
  have h := textF_le o (bareF s)
  have h2 : (bareF s).length ≤ s.length := by unfold bareF; split <;> simp
  unfold canonF
  rw [List.length_append]
  split
  · simp; omega
  · simp; omega
theorem bare_cut (s : List UInt8) : Lib.trimSuffix s [10] = bareF s ∧ Lib.hasSuffix s [10] = feedB s := by
  have h : Lib.hasSuffix s [10] = feedB s := by
    induction s using snoc_ind with
    | h0 => rfl
    | h1 s c _ =>
      rw [feedB_snoc]
      unfold Lib.hasSuffix
      rw [Bool.eq_iff_iff]
      simp only [List.isSuffixOf_iff_suffix, beq_iff_eq]
      constructor
      · rintro ⟨t, ht⟩
        have := congrArg List.getLast? ht
        simpa [eq_comm] using this
      · rintro rfl
        exact ⟨s, rfl⟩
  refine ⟨?_, h⟩
  unfold Lib.trimSuffix bareF
  rw [h, List.dropLast_eq_take]
  rfl
set_option maxHeartbeats 1000000 in
theorem bare_any (s : ByteArray) (w : World) (hs : s.size ≤ 16777216) :
    Calls Tryd.prog 35 #[.string s] w fun e w' => e = .returned (.tuple #[.string ⟨(bareF s.data.toList).toArray⟩, .bool (feedB s.data.toList)]) ∧ w = w' := by
  go_enter Tryd.func35, Tryd.ntmps35
  go_wp2_with fail
  refine (Tryd.strings_CutSuffix s ⟨#[10]⟩ w (by omega)).mono ?_
  rintro e w' ⟨rfl, rfl⟩
  rw [show ((⟨#[10]⟩ : ByteArray)).data.toList = [10] from rfl, (bare_cut _).1, (bare_cut _).2]
  go_wp2_with fail
  go_ret2
  exact ⟨rfl, rfl⟩
def IgnRow (o : Ign) (b : Nat) (w : World) : Prop := w.heap[b]? = some (.cells #[.bool o.space, .bool o.white, .bool o.blank, .bool o.case_, .bool o.tabs, .bool o.trail] 23)
theorem IgnRow.below {o : Ign} {b : Nat} {w w' : World} (h : IgnRow o b w) (hb : Below w.heap.size w w') : IgnRow o b w' :=
  (hb.block b (Array.getElem?_eq_some_iff.1 h).1).trans h
theorem IgnRow.cell {o : Ign} {b : Nat} {w : World} (h : IgnRow o b w) (j : Nat) : w.cell? ⟨b, j, none⟩ = (#[.bool o.space, .bool o.white, .bool o.blank, .bool o.case_, .bool o.tabs, .bool o.trail] : Array Value)[j]? := by
  unfold IgnRow at h
  simp only [World.cell?, h, Option.isSome_none, Bool.false_eq_true, if_false]
set_option maxHeartbeats 1000000 in
theorem canon_any (s : ByteArray) (o : Ign) (w : World) (hs : s.size ≤ 8388608) :
    Calls Tryd.prog 29 #[.string s, .agg #[.bool o.space, .bool o.white, .bool o.blank, .bool o.case_, .bool o.tabs, .bool o.trail]] w fun e w' => e = .returned (.string ⟨(canonF o s.data.toList).toArray⟩) ∧ Below w.heap.size w w' := by
  go_enter Tryd.func29, Tryd.ntmps29
  go_wp2_with fail
  refine (bare_any s _ (by omega)).mono ?_
  rintro e w' ⟨rfl, rfl⟩
  have hz : (⟨(bareF s.data.toList).toArray⟩ : ByteArray).size ≤ 8388608 := by
    have h2 : (bareF s.data.toList).length ≤ s.data.toList.length := by unfold bareF; split <;> simp
    simp only [ByteArray.size, List.size_toArray]
    simp at h2; omega
  have hcan : canonF o s.data.toList = textF o (bareF s.data.toList) ++ (if feedB s.data.toList then [10] else []) := rfl
  have htl := textF_le o (bareF s.data.toList)
  have HC := Lib.hid hcan
  clear hcan
  generalize bareF s.data.toList = t at *
  generalize feedB s.data.toList = f at *
  have htz : t.length ≤ 8388608 := by simpa [ByteArray.size] using hz
  have hbox : Below w.heap.size w (w.alloc (.cells #[.bool o.space, .bool o.white, .bool o.blank, .bool o.case_, .bool o.tabs, .bool o.trail] 23)) := (Below.refl _ _).alloc (Nat.le_refl _) _
  cases f with
  | true =>
    go_wp2_with fail
    refine (text_any ⟨t.toArray⟩ o _ (by omega)).mono ?_
    rintro e w2 ⟨rfl, hb2⟩
    have hb3 := hbox.trans (hb2.mono hbox.size)
    have hl : (textF o t).length + 1 ≤ 9223372036854775807 := by omega
    clear hbox hb2 htl
    go_wp2_with fail
    go_ret
    exact ⟨by rw [HC.out]; exact congrArg (fun z => Ending.returned (Value.string z)) (bs_append (textF o t) [10]), hb3⟩
  | false =>
    go_wp2_with fail
    refine (text_any ⟨t.toArray⟩ o _ (by omega)).mono ?_
    rintro e w2 ⟨rfl, hb2⟩
    have hb3 := hbox.trans (hb2.mono hbox.size)
    clear hbox hb2
    go_wp2_with fail
    go_ret
    exact ⟨by rw [HC.out]; simp, hb3⟩
def IgnS (o : Ign) (w w' : World) : Prop := IgnRow o w.heap.size w' ∧ Below w.heap.size w w'
theorem IgnS.below {o : Ign} {w w' : World} (h : IgnS o w w') : Below w.heap.size w w' := h.2
theorem IgnS.keep {o : Ign} {w W W' : World} (hb : Below W.heap.size W W') (hr : IgnS o w W) : IgnS o w W' := ⟨hr.1.below hb, hr.2.trans (hb.mono hr.2.size)⟩
theorem IgnS.keepD {o : Ign} {w W : World} (hr : IgnS o w W) : IgnS o w W.drew := ⟨hr.1, below_drew hr.2⟩
set_option maxHeartbeats 2000000 in
theorem equal_any (a b : ByteArray) (o : Ign) (w : World) (ha : a.size ≤ 8388608) (hb : b.size ≤ 8388608) :
    Calls Tryd.prog 9 #[.string a, .string b, .agg #[.bool o.space, .bool o.white, .bool o.blank, .bool o.case_, .bool o.tabs, .bool o.trail]] w fun e w' => e = .returned (.bool (equalF o a.data.toList b.data.toList)) ∧ Below w.heap.size w w' := by
  go_enter Tryd.func9, Tryd.ntmps9
  go_wp2_with fail
  have hr : IgnRow o w.heap.size (w.alloc (.cells #[.bool o.space, .bool o.white, .bool o.blank, .bool o.case_, .bool o.tabs, .bool o.trail] 23)) := alloc_new _ _
  have hbox : Below w.heap.size w (w.alloc (.cells #[.bool o.space, .bool o.white, .bool o.blank, .bool o.case_, .bool o.tabs, .bool o.trail] 23)) := (Below.refl _ _).alloc (Nat.le_refl _) _
  generalize w.alloc (.cells #[.bool o.space, .bool o.white, .bool o.blank, .bool o.case_, .bool o.tabs, .bool o.trail] 23) = W at *
  have hS : IgnS o w W := ⟨hr, hbox⟩
  clear hr hbox
  have k0 : ∀ w', IgnS o w w' → w'.cell? ⟨w.heap.size, 0, none⟩ = some (.bool o.space) := fun w' h => h.1.cell 0
  have k1 : ∀ w', IgnS o w w' → w'.cell? ⟨w.heap.size, 1, none⟩ = some (.bool o.white) := fun w' h => h.1.cell 1
  have k2 : ∀ w', IgnS o w w' → w'.cell? ⟨w.heap.size, 2, none⟩ = some (.bool o.blank) := fun w' h => h.1.cell 2
  have k3 : ∀ w', IgnS o w w' → w'.cell? ⟨w.heap.size, 3, none⟩ = some (.bool o.case_) := fun w' h => h.1.cell 3
  have k4 : ∀ w', IgnS o w w' → w'.cell? ⟨w.heap.size, 4, none⟩ = some (.bool o.tabs) := fun w' h => h.1.cell 4
  have k5 : ∀ w', IgnS o w w' → w'.cell? ⟨w.heap.size, 5, none⟩ = some (.bool o.trail) := fun w' h => h.1.cell 5
  go_region_held3 (fun w' => IgnS o w w') (first | exact IgnS.keep (by assumption) (by assumption) | exact IgnS.keepD (by assumption)) (first | (go_at_call 29; (with_reducible refine (canon_any a o _ ha).mono ?_); rintro e w1 ⟨rfl, hb1⟩) | (go_at_call 29; (with_reducible refine (canon_any b o _ hb).mono ?_); rintro e w1 ⟨rfl, hb1⟩))
  go_wp2_with fail
  go_ret
  exact ⟨rfl, IgnS.below (o := o) (by assumption)⟩
set_option maxHeartbeats 1000000 in
theorem blank_any (s : ByteArray) (o : Ign) (w : World) (hs : s.size ≤ 8388608) :
    Calls Tryd.prog 30 #[.string s, .agg #[.bool o.space, .bool o.white, .bool o.blank, .bool o.case_, .bool o.tabs, .bool o.trail]] w fun e w' => e = .returned (.bool (blankF o s.data.toList)) ∧ Below w.heap.size w w' := by
  go_enter Tryd.func30, Tryd.ntmps30
  go_wp2_with fail
  refine (bare_any s _ (by omega)).mono ?_
  rintro e w' ⟨rfl, rfl⟩
  have hz : (⟨(bareF s.data.toList).toArray⟩ : ByteArray).size ≤ 8388608 := by
    have h2 : (bareF s.data.toList).length ≤ s.data.toList.length := by unfold bareF; split <;> simp
    simp only [ByteArray.size, List.size_toArray]
    simp at h2; omega
  have hbl : Hid (blankF o s.data.toList = (textF o (bareF s.data.toList) == [])) := rfl
  generalize bareF s.data.toList = t at *
  generalize feedB s.data.toList = f at *
  have hbox : Below w.heap.size w (w.alloc (.cells #[.bool o.space, .bool o.white, .bool o.blank, .bool o.case_, .bool o.tabs, .bool o.trail] 23)) := (Below.refl _ _).alloc (Nat.le_refl _) _
  go_wp2_with fail
  refine (text_any ⟨t.toArray⟩ o _ (by omega)).mono ?_
  rintro e w2 ⟨rfl, hb2⟩
  have hb3 := hbox.trans (hb2.mono hbox.size)
  clear hbox hb2
  generalize textF o t = T at *
  go_wp2_with fail
  go_ret
  refine ⟨?_, hb3⟩
  rw [hbl.out]
  cases T <;> rfl
end Go.Proofs.YtmjbhjmgecabbaaDoor
