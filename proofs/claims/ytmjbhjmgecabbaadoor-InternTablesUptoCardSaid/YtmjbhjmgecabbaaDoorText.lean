/- canon.trail, text, Canon, Equal, Blank. -/
import Derived.Test.YtmjbhjmgecabbaaDoorCanon
import Derived.Laws.EntriesVeiled
namespace Go.Proofs.YtmjbhjmgecabbaaDoor
open Go.RowKit YtmjbhjmgecabbaaDoorW.PrintWords

theorem info256 : (Tryd.prog.info? 115).map (fun i => (i.zero, i.size)) = some (some (.agg (Array.replicate 256 (.bool false))), 256) := by kernel_rfl
set_option maxHeartbeats 1000000 in
theorem trail_any (s : ByteArray) (w : World) (hs : s.size ≤ 268435456) :
    Calls Tryd.prog 73 #[.string s] w fun e w' => e = .returned (.string ⟨(trailF s.data.toList).toArray⟩) ∧ Below w.heap.size w w' := by
  go_enter Tryd.func73, Tryd.ntmps73
  go_wp2_with fail
  refine (Any.strings_TrimRight_laid Tryd.lays162 (by kernel_rfl) s ⟨#[32, 9, 11, 12, 13]⟩ w (by omega) (by decide) (by
    intro j b hj
    have : b ∈ ([32, 9, 11, 12, 13] : List UInt8) := List.mem_of_getElem? hj
    simp at this
    rcases this with rfl | rfl | rfl | rfl | rfl <;> decide)).mono ?_
  rintro e w' ⟨rfl, hb⟩
  go_wp2_with fail
  go_ret
  refine ⟨?_, hb⟩
  exact congrArg (fun l : List UInt8 => Ending.returned (.string ⟨l.toArray⟩)) (trailF_trim s.data.toList)
theorem alloc_new (w : World) (o : Obj) : (w.alloc o).heap[w.heap.size]? = some o := by
  show (w.heap.push o)[w.heap.size]? = _
  simp
/-- what is ignored, as Go has it -/
def ignV (o : Ign) : Value := .agg #[.bool o.space, .bool o.white, .bool o.blank, .bool o.case_, .bool o.tabs, .bool o.trail]
/-- the first k steps -/
def st1 (o : Ign) (s : List UInt8) : List UInt8 := if o.tabs then expandF s else s
def st2 (o : Ign) (s : List UInt8) : List UInt8 := if o.white then stripF (st1 o s) else st1 o s
def st3 (o : Ign) (s : List UInt8) : List UInt8 := if o.space then squeezeF (st2 o s) else st2 o s
def st4 (o : Ign) (s : List UInt8) : List UInt8 := if o.trail then trailF (st3 o s) else st3 o s
def st5 (o : Ign) (s : List UInt8) : List UInt8 := if o.case_ then smallF (st4 o s) else st4 o s
def stepsF (o : Ign) (k : Nat) (s : List UInt8) : List UInt8 :=
  match k with
  | 0 => s
  | 1 => st1 o s
  | 2 => st2 o s
  | 3 => st3 o s
  | 4 => st4 o s
  | _ => st5 o s
theorem stepsF_all (o : Ign) (s : List UInt8) : stepsF o 5 s = textF o s := rfl
theorem trailF_le (s : List UInt8) : (trailF s).length ≤ s.length := by
  unfold trailF; rw [List.length_reverse]; exact Nat.le_trans (List.dropWhile_suffix _).length_le (by simp)
theorem sqGo_le (p : Bool) (s : List UInt8) : (sqGo p s).length ≤ s.length := by
  induction s generalizing p with
  | nil => simp [sqGo]
  | cons c t ih =>
    have h1 := ih true
    have h2 := ih false
    simp only [sqGo]
    split
    · split <;> simp <;> omega
    · simp; omega
theorem stepsF_le (o : Ign) (k : Nat) (hk : k ≤ 5) (s : List UInt8) : (stepsF o k s).length ≤ 8 * s.length := by
  have h1 : (st1 o s).length ≤ 8 * s.length := by
    unfold st1
    split
    · have := expandGo_len [] s; simpa [expandF] using this
    · omega
  have h2 : (st2 o s).length ≤ (st1 o s).length := by
    unfold st2
    split
    · exact List.length_filter_le _ _
    · omega
  have h3 : (st3 o s).length ≤ (st2 o s).length := by
    unfold st3
    split
    · exact Nat.le_trans (trailF_le _) (sqGo_le _ _)
    · omega
  have h4 : (st4 o s).length ≤ (st3 o s).length := by
    unfold st4
    split
    · exact trailF_le _
    · omega
  have h5 : (st5 o s).length = (st4 o s).length := by
    unfold st5
    split <;> simp [smallF]
  match k, hk with
  | 0, _ => show s.length ≤ _; omega
  | 1, _ => exact h1
  | 2, _ => exact Nat.le_trans h2 h1
  | 3, _ => exact Nat.le_trans h3 (Nat.le_trans h2 h1)
  | 4, _ => exact Nat.le_trans h4 (Nat.le_trans h3 (Nat.le_trans h2 h1))
  | 5, _ => exact h5 ▸ Nat.le_trans h4 (Nat.le_trans h3 (Nat.le_trans h2 h1))
theorem textF_le (o : Ign) (s : List UInt8) : (textF o s).length ≤ 8 * s.length := by
  rw [← stepsF_all]; exact stepsF_le o 5 (Nat.le_refl _) s
def StepRow (o : Ign) (b : Nat) (w : World) : Prop := w.heap[b]? = some (.cells #[.bool o.tabs, .func (.func 36) #[] #[], .bool o.white, .func (.func 71) #[] #[], .bool o.space, .func (.func 72) #[] #[], .bool o.trail, .func (.func 73) #[] #[], .bool o.case_, .func (.func 74) #[] #[]] 129)
theorem StepRow.below {o : Ign} {b : Nat} {w w' : World} (h : StepRow o b w) (hb : Below w.heap.size w w') : StepRow o b w' :=
  (hb.block b (Array.getElem?_eq_some_iff.1 h).1).trans h
theorem StepRow.cell {o : Ign} {b : Nat} {w : World} (h : StepRow o b w) (j : Nat) : w.cell? ⟨b, j, none⟩ = (#[.bool o.tabs, .func (.func 36) #[] #[], .bool o.white, .func (.func 71) #[] #[], .bool o.space, .func (.func 72) #[] #[], .bool o.trail, .func (.func 73) #[] #[], .bool o.case_, .func (.func 74) #[] #[]] : Array Value)[j]? := by
  unfold StepRow at h
  simp only [World.cell?, h, Option.isSome_none, Bool.false_eq_true, if_false]
set_option maxHeartbeats 1000000 in
theorem text_any (s : ByteArray) (o : Ign) (w : World) (hs : s.size ≤ 16777216) :
    Calls Tryd.prog 51 #[.string s, .agg #[.bool o.space, .bool o.white, .bool o.blank, .bool o.case_, .bool o.tabs, .bool o.trail]] w fun e w' => e = .returned (.string ⟨(textF o s.data.toList).toArray⟩) ∧ Below w.heap.size w w' := by
  go_enter Tryd.func51, Tryd.ntmps51
  go_wp2_with fail
  have hr0 : StepRow o (w.heap.size + 1) ((w.alloc (.cells #[.bool o.space, .bool o.white, .bool o.blank, .bool o.case_, .bool o.tabs, .bool o.trail] 23)).alloc (.cells #[.bool o.tabs, .func (.func 36) #[] #[], .bool o.white, .func (.func 71) #[] #[], .bool o.space, .func (.func 72) #[] #[], .bool o.trail, .func (.func 73) #[] #[], .bool o.case_, .func (.func 74) #[] #[]] 129)) := by
    have := alloc_new (w.alloc (.cells #[.bool o.space, .bool o.white, .bool o.blank, .bool o.case_, .bool o.tabs, .bool o.trail] 23)) (.cells #[.bool o.tabs, .func (.func 36) #[] #[], .bool o.white, .func (.func 71) #[] #[], .bool o.space, .func (.func 72) #[] #[], .bool o.trail, .func (.func 73) #[] #[], .bool o.case_, .func (.func 74) #[] #[]] 129)
    rwa [World.size_alloc] at this
  have hb0 : Below w.heap.size w ((w.alloc (.cells #[.bool o.space, .bool o.white, .bool o.blank, .bool o.case_, .bool o.tabs, .bool o.trail] 23)).alloc (.cells #[.bool o.tabs, .func (.func 36) #[] #[], .bool o.white, .func (.func 71) #[] #[], .bool o.space, .func (.func 72) #[] #[], .bool o.trail, .func (.func 73) #[] #[], .bool o.case_, .func (.func 74) #[] #[]] 129)) := ((Below.refl _ _).alloc (Nat.le_refl _) _).alloc (by simp) _
  generalize (w.alloc (.cells #[.bool o.space, .bool o.white, .bool o.blank, .bool o.case_, .bool o.tabs, .bool o.trail] 23)).alloc (.cells #[.bool o.tabs, .func (.func 36) #[] #[], .bool o.white, .func (.func 71) #[] #[], .bool o.space, .func (.func 72) #[] #[], .bool o.trail, .func (.func 73) #[] #[], .bool o.case_, .func (.func 74) #[] #[]] 129) = W at *
  go_loopw [0, 24] (fun v i wr => ∃ k : Nat, k ≤ 5 ∧ i = .int .i64 k ∧ v = .string ⟨(stepsF o k s.data.toList).toArray⟩ ∧ StepRow o (w.heap.size + 1) wr ∧ Below w.heap.size w wr) (fun _ i _ => 5 - (intOf i).toNat)
  case atStart => exact ⟨0, by omega, rfl, by simp [stepsF], hr0, hb0⟩
  case round =>
    clear hr0 hb0
    obtain ⟨k, hk, rfl, rfl, hr, hb⟩ := hrel
    have hle := stepsF_le o k hk s.data.toList
    have hsz : (⟨(stepsF o k s.data.toList).toArray⟩ : ByteArray).size ≤ 268435456 := by
      simp only [ByteArray.size, List.size_toArray]
      have : s.data.toList.length = s.size := by simp
      omega
    match k, hk with
    | 0, _ =>
      have c0 := hr.cell 0
      have c1 := hr.cell 1
      simp only [List.getElem?_toArray, List.getElem?_cons_zero, List.getElem?_cons_succ] at c0 c1
      have hn : Hid (stepsF o (0 + 1) s.data.toList = if o.tabs then expandF (stepsF o 0 s.data.toList) else stepsF o 0 s.data.toList) := rfl
      generalize stepsF o 0 s.data.toList = cur at *
      obtain ⟨t, ht⟩ : ∃ t, o.tabs = t := ⟨_, rfl⟩
      rw [ht] at c0 hn
      clear ht hle
      cases t with
      | true =>
        go_wp2_with fail
        refine (expand_any ⟨cur.toArray⟩ _ hsz).mono ?_
        rintro e w2 ⟨rfl, hb2⟩
        have hal := Below.alloc hb hb.size (.cells #[.bool true, .func (.func 36) #[] #[]] 129)
        have hb3 := hal.trans (hb2.mono hal.size)
        have hr3 := (hr.below ((Below.refl _ _).alloc (Nat.le_refl _) _)).below hb2
        clear hr hb hb2 hal
        go_wp2_with fail
        go_roundw
        case rel => exact ⟨0 + 1, by omega, rfl, by rw [hn.out]; rfl, hr3, hb3⟩
        case measure => simp [intOf]
      | false =>
        have hal := Below.alloc hb hb.size (.cells #[.bool false, .func (.func 36) #[] #[]] 129)
        have hr3 := hr.below ((Below.refl _ _).alloc (Nat.le_refl _) (.cells #[.bool false, .func (.func 36) #[] #[]] 129))
        clear hr hb
        go_wp2_with fail
        go_roundw
        case rel => exact ⟨0 + 1, by omega, rfl, by rw [hn.out]; rfl, hr3, hal⟩
        case measure => simp [intOf]
    | 1, _ =>
      have c0 := hr.cell 2
      have c1 := hr.cell 3
      simp only [List.getElem?_toArray, List.getElem?_cons_zero, List.getElem?_cons_succ] at c0 c1
      have hn : Hid (stepsF o (1 + 1) s.data.toList = if o.white then stripF (stepsF o 1 s.data.toList) else stepsF o 1 s.data.toList) := rfl
      generalize stepsF o 1 s.data.toList = cur at *
      obtain ⟨t, ht⟩ : ∃ t, o.white = t := ⟨_, rfl⟩
      rw [ht] at c0 hn
      clear ht hle
      cases t with
      | true =>
        go_wp2_with fail
        refine (strip_any ⟨cur.toArray⟩ _ hsz).mono ?_
        rintro e w2 ⟨rfl, hb2⟩
        have hal := Below.alloc hb hb.size (.cells #[.bool true, .func (.func 71) #[] #[]] 129)
        have hb3 := hal.trans (hb2.mono hal.size)
        have hr3 := (hr.below ((Below.refl _ _).alloc (Nat.le_refl _) _)).below hb2
        clear hr hb hb2 hal
        go_wp2_with fail
        go_roundw
        case rel => exact ⟨1 + 1, by omega, rfl, by rw [hn.out]; rfl, hr3, hb3⟩
        case measure => simp [intOf]
      | false =>
        have hal := Below.alloc hb hb.size (.cells #[.bool false, .func (.func 71) #[] #[]] 129)
        have hr3 := hr.below ((Below.refl _ _).alloc (Nat.le_refl _) (.cells #[.bool false, .func (.func 71) #[] #[]] 129))
        clear hr hb
        go_wp2_with fail
        go_roundw
        case rel => exact ⟨1 + 1, by omega, rfl, by rw [hn.out]; rfl, hr3, hal⟩
        case measure => simp [intOf]
    | 2, _ =>
      have c0 := hr.cell 4
      have c1 := hr.cell 5
      simp only [List.getElem?_toArray, List.getElem?_cons_zero, List.getElem?_cons_succ] at c0 c1
      have hn : Hid (stepsF o (2 + 1) s.data.toList = if o.space then squeezeF (stepsF o 2 s.data.toList) else stepsF o 2 s.data.toList) := rfl
      generalize stepsF o 2 s.data.toList = cur at *
      obtain ⟨t, ht⟩ : ∃ t, o.space = t := ⟨_, rfl⟩
      rw [ht] at c0 hn
      clear ht hle
      cases t with
      | true =>
        go_wp2_with fail
        refine (squeeze_any ⟨cur.toArray⟩ _ hsz).mono ?_
        rintro e w2 ⟨rfl, hb2⟩
        have hal := Below.alloc hb hb.size (.cells #[.bool true, .func (.func 72) #[] #[]] 129)
        have hb3 := hal.trans (hb2.mono hal.size)
        have hr3 := (hr.below ((Below.refl _ _).alloc (Nat.le_refl _) _)).below hb2
        clear hr hb hb2 hal
        go_wp2_with fail
        go_roundw
        case rel => exact ⟨2 + 1, by omega, rfl, by rw [hn.out]; rfl, hr3, hb3⟩
        case measure => simp [intOf]
      | false =>
        have hal := Below.alloc hb hb.size (.cells #[.bool false, .func (.func 72) #[] #[]] 129)
        have hr3 := hr.below ((Below.refl _ _).alloc (Nat.le_refl _) (.cells #[.bool false, .func (.func 72) #[] #[]] 129))
        clear hr hb
        go_wp2_with fail
        go_roundw
        case rel => exact ⟨2 + 1, by omega, rfl, by rw [hn.out]; rfl, hr3, hal⟩
        case measure => simp [intOf]
    | 3, _ =>
      have c0 := hr.cell 6
      have c1 := hr.cell 7
      simp only [List.getElem?_toArray, List.getElem?_cons_zero, List.getElem?_cons_succ] at c0 c1
      have hn : Hid (stepsF o (3 + 1) s.data.toList = if o.trail then trailF (stepsF o 3 s.data.toList) else stepsF o 3 s.data.toList) := rfl
      generalize stepsF o 3 s.data.toList = cur at *
      obtain ⟨t, ht⟩ : ∃ t, o.trail = t := ⟨_, rfl⟩
      rw [ht] at c0 hn
      clear ht hle
      cases t with
      | true =>
        go_wp2_with fail
        refine (trail_any ⟨cur.toArray⟩ _ hsz).mono ?_
        rintro e w2 ⟨rfl, hb2⟩
        have hal := Below.alloc hb hb.size (.cells #[.bool true, .func (.func 73) #[] #[]] 129)
        have hb3 := hal.trans (hb2.mono hal.size)
        have hr3 := (hr.below ((Below.refl _ _).alloc (Nat.le_refl _) _)).below hb2
        clear hr hb hb2 hal
        go_wp2_with fail
        go_roundw
        case rel => exact ⟨3 + 1, by omega, rfl, by rw [hn.out]; rfl, hr3, hb3⟩
        case measure => simp [intOf]
      | false =>
        have hal := Below.alloc hb hb.size (.cells #[.bool false, .func (.func 73) #[] #[]] 129)
        have hr3 := hr.below ((Below.refl _ _).alloc (Nat.le_refl _) (.cells #[.bool false, .func (.func 73) #[] #[]] 129))
        clear hr hb
        go_wp2_with fail
        go_roundw
        case rel => exact ⟨3 + 1, by omega, rfl, by rw [hn.out]; rfl, hr3, hal⟩
        case measure => simp [intOf]
    | 4, _ =>
      have c0 := hr.cell 8
      have c1 := hr.cell 9
      simp only [List.getElem?_toArray, List.getElem?_cons_zero, List.getElem?_cons_succ] at c0 c1
      have hn : Hid (stepsF o (4 + 1) s.data.toList = if o.case_ then smallF (stepsF o 4 s.data.toList) else stepsF o 4 s.data.toList) := rfl
      generalize stepsF o 4 s.data.toList = cur at *
      obtain ⟨t, ht⟩ : ∃ t, o.case_ = t := ⟨_, rfl⟩
      rw [ht] at c0 hn
      clear ht hle
      cases t with
      | true =>
        go_wp2_with fail
        refine (small_any ⟨cur.toArray⟩ _ hsz).mono ?_
        rintro e w2 ⟨rfl, hb2⟩
        have hal := Below.alloc hb hb.size (.cells #[.bool true, .func (.func 74) #[] #[]] 129)
        have hb3 := hal.trans (hb2.mono hal.size)
        have hr3 := (hr.below ((Below.refl _ _).alloc (Nat.le_refl _) _)).below hb2
        clear hr hb hb2 hal
        go_wp2_with fail
        go_roundw
        case rel => exact ⟨4 + 1, by omega, rfl, by rw [hn.out]; rfl, hr3, hb3⟩
        case measure => simp [intOf]
      | false =>
        have hal := Below.alloc hb hb.size (.cells #[.bool false, .func (.func 74) #[] #[]] 129)
        have hr3 := hr.below ((Below.refl _ _).alloc (Nat.le_refl _) (.cells #[.bool false, .func (.func 74) #[] #[]] 129))
        clear hr hb
        go_wp2_with fail
        go_roundw
        case rel => exact ⟨4 + 1, by omega, rfl, by rw [hn.out]; rfl, hr3, hal⟩
        case measure => simp [intOf]
    | 5, _ =>
      rw [stepsF_all]
      go_wp2_with fail
      go_ret
      exact ⟨rfl, hb⟩
end Go.Proofs.YtmjbhjmgecabbaaDoor
