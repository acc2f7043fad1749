/- canon's functions are the chapter's: pieces, strip, squeeze, trail, text, Canon, Equal, Blank. -/
import Derived.Test.YtmjbhjmgecabbaaDoorExpand
import Derived.Test.YtmjbhjmgecabbaaDoorSmall
import Derived.Test.YtmjbhjmgecabbaaDoorRunes
import Derived.Test.YtmjbhjmgecabbaaDoorWhite
import Derived.Shelf.Strings.SlTrimAscii
namespace Go.Proofs.YtmjbhjmgecabbaaDoor
open Go.RowKit YtmjbhjmgecabbaaDoorW.PrintWords

/-! ### words -/
def bs (l : List UInt8) : ByteArray := ⟨l.toArray⟩
theorem bs_toList (l : List UInt8) : (bs l).data.toList = l := by simp [bs]
theorem bs_size (l : List UInt8) : (bs l).size = l.length := by simp [bs, ByteArray.size]
theorem bs_append (a b : List UInt8) : (⟨a.toArray⟩ : ByteArray) ++ ⟨b.toArray⟩ = ⟨(a ++ b).toArray⟩ := by
  apply ByteArray.ext
  simp
theorem bs_eq (s : ByteArray) : bs s.data.toList = s := by simp [bs]
theorem wspN_byte (c : UInt8) : wspN c.toNat = wsp c := by
  have := u8_all (p := fun c => wspN c.toNat == wsp c) (by decide +kernel) c
  simpa using this
theorem wspN_ascii (n : Nat) (h : wspN n = true) : n < 128 := by
  simp [wspN] at h; omega
def piecesS (s : ByteArray) : List ByteArray := Lib.goFieldsP wspN s
theorem piecesS_list (s : ByteArray) : (piecesS s).map (·.data.toList) = piecesB wsp [] s.data.toList := by
  unfold piecesS
  rw [fieldsP_bytes wspN wspN_ascii s]
  congr 1
  funext c
  exact wspN_byte c
theorem joinB_join (L : List (List UInt8)) : Lib.join L [32] = joinB L := by
  cases L with
  | nil => rfl
  | cons x L =>
    induction L generalizing x with
    | nil => simp [joinB, Lib.join_one]
    | cons y L ih =>
      have := ih y
      rw [Lib.join_cons] at this ⊢
      simp only [joinB, Lib.joinTail, List.map_cons, List.flatten_cons] at this ⊢
      rw [← this]
      simp
theorem trailF_trim (l : List UInt8) : Lib.trimRightS l [32, 9, 11, 12, 13] = trailF l := by
  unfold Lib.trimRightS trailF
  congr 2
  funext c
  have := u8_all (p := fun c => ([32, 9, 11, 12, 13] : List UInt8).contains c == wsp c) (by decide +kernel) c
  simpa using this
/-- Block A is a row of strings that begins with xs. -/
def RowS (w : World) (A : Nat) (xs : List ByteArray) : Prop := ∃ cs : Array Value, w.heap[A]? = some (.cells cs 9 (0, 0)) ∧ ∀ (j : Nat) x, xs[j]? = some x → cs[j]? = some (.string x)
theorem RowS.lt {w : World} {A : Nat} {xs : List ByteArray} (h : RowS w A xs) : A < w.heap.size := by
  obtain ⟨cs, h, _⟩ := h
  exact (Array.getElem?_eq_some_iff.1 h).1
theorem RowS.cell {w : World} {A : Nat} {xs : List ByteArray} (h : RowS w A xs) {j : Nat} {x : ByteArray} (hj : xs[j]? = some x) : w.cell? ⟨A, j, none⟩ = some (.string x) := by
  obtain ⟨cs, h, hc⟩ := h
  simp only [World.cell?, h, Option.isSome_none, Bool.false_eq_true, if_false]
  exact hc j x hj
theorem RowS.heap {w w' : World} {A : Nat} {xs : List ByteArray} (h : RowS w A xs) (hb : w'.heap[A]? = w.heap[A]?) : RowS w' A xs := by
  obtain ⟨cs, h, hc⟩ := h
  exact ⟨cs, hb.trans h, hc⟩
theorem RowS.below {w w' : World} {A : Nat} {xs : List ByteArray} (h : RowS w A xs) (hb : Below w.heap.size w w') : RowS w' A xs := h.heap (hb.block A h.lt)
theorem RowS.kept {w w' : World} {A b : Nat} {xs : List ByteArray} (h : RowS w A xs) (hk : BKept b w w') (hne : A ≠ b) : RowS w' A xs := by
  obtain ⟨cs, h, hc⟩ := h
  exact ⟨cs, hk.row h hne (by decide), hc⟩

/-! ### pieces -/
theorem white_pays (w : World) : PredGrows Tryd.prog 96 #[] wspN w := fun W x hx _ => white_any x W hx
set_option maxHeartbeats 1000000 in
theorem pieces_any (s : ByteArray) (w : World) (hs : s.size ≤ 268435456) :
    Calls Tryd.prog 94 #[.string s] w fun e w' => ∃ A, e = .returned (.slice (some ⟨A, 0, none⟩) (piecesS s).length (piecesS s).length) ∧
      RowS w' A (piecesS s) ∧ w.heap.size ≤ A ∧ Below w.heap.size w w' := by
  go_enter Tryd.func94, Tryd.ntmps94
  go_wp2_with fail
  refine (Tryd.strings_FieldsFunc_grows 96 #[] (fun args w => by kernel_rfl) wspN s w (by omega) (white_pays w)).mono ?_
  rintro e w' ⟨A, rfl, hA, hown, hb⟩
  go_wp2_with fail
  go_ret
  refine ⟨A, rfl, ?_, (hown.lt A rfl).1, hb⟩
  rcases hown.2 with ⟨hv, _⟩ | ⟨g, cap, cur, hv, _, hg, hn, hm, hsz, htake⟩
  · cases hv
  · injection hv with hv
    injection hv with hv
    injection hv with hv
    subst hv
    refine ⟨cur, hg, fun j x hx => ?_⟩
    have hx' : ((piecesS s).map Value.string)[j]? = some (.string x) := by rw [List.getElem?_map]; exact congrArg (Option.map Value.string) hx
    have hx'' : (cur.toList.take ((Lib.goFieldsP wspN s).length * 1))[j]? = some (.string x) := by rw [htake]; exact hx'
    rw [List.getElem?_take] at hx''
    split at hx''
    · simpa using hx''
    · cases hx''

/-! ### strip -/
theorem flatten_take (L : List (List UInt8)) (k : Nat) (h : k < L.length) : (L.take (k + 1)).flatten = (L.take k).flatten ++ L[k] := by
  rw [List.take_succ_eq_append_getElem h, List.flatten_append]; simp
theorem flatten_le (L : List (List UInt8)) (k : Nat) : (L.take k).flatten.length ≤ L.flatten.length := by
  have : L.flatten = (L.take k).flatten ++ (L.drop k).flatten := by rw [← List.flatten_append, List.take_append_drop]
  rw [this, List.length_append]; omega
theorem flatten_at (L : List (List UInt8)) (k : Nat) (h : k < L.length) : L[k].length ≤ L.flatten.length := by
  have := flatten_le L (k + 1)
  rw [flatten_take L k h, List.length_append] at this; omega
theorem length_flatten (L : List (List UInt8)) (h : ∀ x ∈ L, x ≠ []) : L.length ≤ L.flatten.length := by
  induction L with
  | nil => simp
  | cons x L ih =>
    have h1 := ih (fun y hy => h y (by simp [hy]))
    have h2 := List.length_pos_iff.2 (h x (by simp))
    simp only [List.length_cons, List.flatten_cons, List.length_append]; omega
theorem stripF_le (s : ByteArray) : (stripF s.data.toList).length ≤ s.size := by
  have := List.length_filter_le (fun c => !wsp c) s.data.toList
  simpa [stripF] using this
theorem pieces_facts (s : ByteArray) : (piecesS s).length ≤ s.size ∧ ∀ k (h : k < (piecesS s).length), ((piecesS s)[k]).size ≤ s.size := by
  have hL := piecesS_list s
  have hfl : (piecesB wsp [] s.data.toList).flatten = stripF s.data.toList := (strip_join _).symm
  have hle := stripF_le s
  rw [← hL] at hfl
  rw [← hfl] at hle
  constructor
  · have := length_flatten ((piecesS s).map (·.data.toList)) (by rw [hL]; exact piecesB_ne _ _ _)
    simp only [List.length_map] at this
    omega
  · intro k h
    have := flatten_at ((piecesS s).map (·.data.toList)) k (by simpa using h)
    simp only [List.getElem_map] at this
    have e : ((piecesS s)[k]).data.toList.length = ((piecesS s)[k]).size := by simp
    omega
set_option maxHeartbeats 1000000 in
theorem strip_any (s : ByteArray) (w : World) (hs : s.size ≤ 268435456) :
    Calls Tryd.prog 71 #[.string s] w fun e w' => e = .returned (.string ⟨(stripF s.data.toList).toArray⟩) ∧ Below w.heap.size w w' := by
  go_enter Tryd.func71, Tryd.ntmps71
  go_wp2_with fail
  have hB0 := Bld.fresh w
  have hw0 : w.heap.size < (w.alloc (.cells #[.pointer none, .slice none 0 0] 76)).heap.size := by simp
  have hb0 : Below w.heap.size w (w.alloc (.cells #[.pointer none, .slice none 0 0] 76)) := (Below.refl _ _).alloc (Nat.le_refl _) _
  generalize w.alloc (.cells #[.pointer none, .slice none 0 0] 76) = W at *
  refine (pieces_any s W hs).mono ?_
  rintro e w1 ⟨A, rfl, hR1, hA, hb1⟩
  have hL : (((piecesS s).map (·.data.toList))).flatten = stripF s.data.toList := by rw [piecesS_list]; exact (strip_join _).symm
  have hle := stripF_le s
  obtain ⟨hP, hQ⟩ := pieces_facts s
  generalize piecesS s = P at *
  have HL := Lib.hid hL
  have HQ := Lib.hid hQ
  clear hL hQ
  have hB1 := hB0.below hb1
  have hb2 := hb0.trans (hb1.mono hB0.2)
  clear hB0 hb0 hb1
  go_wp2_with fail
  go_loopw [9] (fun i wr => ∃ k : Nat, k ≤ P.length ∧ i = .int .i64 k ∧ Bld w.heap.size w.heap.size ((P.map (·.data.toList)).take k).flatten wr ∧ RowS wr A P ∧ Below w.heap.size w wr) (fun i _ => P.length - (intOf i).toNat)
  case atStart => exact ⟨0, Nat.zero_le _, rfl, hB1, hR1, hb2⟩
  case round =>
    clear hB1 hR1 hb2
    obtain ⟨k, hk, rfl, hB, hR, hb4⟩ := hrel
    have hfle := flatten_le (P.map (·.data.toList)) k
    rw [HL.out] at hfle
    by_cases hlt : k < P.length
    · have hc : wr.cell? ⟨A, k, none⟩ = some (.string P[k]) := hR.cell (List.getElem?_eq_getElem hlt)
      have hsz := HQ.out k hlt
      have HT := Lib.hid (flatten_take (P.map (·.data.toList)) k (by simpa using hlt))
      go_wp2_with fail
      refine (hB.writeString P[k] (by omega) (by omega)).mono ?_
      rintro e w2 ⟨rfl, hB2, hb5, hk5⟩
      go_wp2_with fail
      go_roundw
      case rel => exact ⟨k + 1, by omega, by go_num, by rw [HT.out, List.getElem_map]; exact hB2, hR.kept hk5 (by omega), hb4.trans hb5⟩
      case measure => simp [intOf]; omega
    · go_wp2_with fail
      refine hB.string.mono ?_
      rintro e w2 ⟨rfl, -, hb5, -⟩
      go_wp2_with fail
      go_ret
      refine ⟨?_, hb4.trans hb5⟩
      rw [List.take_of_length_le (by simp; omega), HL.out]; rfl
/-! ### squeeze -/
theorem join_le (L : List (List UInt8)) (h : ∀ x ∈ L, x ≠ []) : (joinB L).length ≤ 2 * L.flatten.length := by
  induction L with
  | nil => simp [joinB]
  | cons x L ih =>
    have h1 := ih (fun y hy => h y (by simp [hy]))
    have h2 := List.length_pos_iff.2 (h x (by simp))
    rw [joinB_cons]
    split <;> (simp only [List.flatten_cons, List.length_append, List.length_cons]; omega)
theorem head_at (s : ByteArray) (h : 0 < s.size) : s.data.toList.head?.any wsp = wsp s[0] := by
  have : s.data.toList[0]? = some s[0] := by rw [List.getElem?_eq_getElem (by simpa using h)]; rfl
  rw [List.head?_eq_getElem?, this]; rfl
set_option maxHeartbeats 1000000 in
theorem squeeze_any (s : ByteArray) (w : World) (hs : s.size ≤ 268435456) :
    Calls Tryd.prog 72 #[.string s] w fun e w' => e = .returned (.string ⟨(squeezeF s.data.toList).toArray⟩) ∧ Below w.heap.size w w' := by
  go_enter Tryd.func72, Tryd.ntmps72
  go_wp2_with fail
  refine (pieces_any s w hs).mono ?_
  rintro e w1 ⟨A, rfl, hR, hA, hb1⟩
  have hsq := squeeze_join s.data.toList
  have hL := piecesS_list s
  have hjl : (joinB (piecesB wsp [] s.data.toList)).length ≤ 2 * s.size := by
    have h1 := join_le _ (piecesB_ne wsp [] s.data.toList)
    have h2 := stripF_le s
    rw [strip_join] at h2
    omega
  obtain ⟨hP, -⟩ := pieces_facts s
  rw [← hL, ← joinB_join] at hsq hjl
  clear hL
  have HSQ := Lib.hid hsq
  clear hsq
  go_wp2_with fail
  refine (Tryd.strings_Join A 0 (piecesS s).length (piecesS s) ⟨#[32]⟩ w1 (fun j x hj => by rw [Nat.zero_add]; exact hR.cell hj) hR.lt (by omega) (Nat.le_refl _) (by simpa using Nat.le_trans hjl (by omega))).mono ?_
  rintro e w2 ⟨rfl, hb2⟩
  have hb3 := hb1.trans (hb2.mono hb1.size)
  have hJs : (⟨(Lib.join ((piecesS s).map (·.data.toList)) [32]).toArray⟩ : ByteArray).toList = Lib.join ((piecesS s).map (·.data.toList)) [32] := by simp [ByteArray.toList_eq]
  generalize Lib.join ((piecesS s).map (·.data.toList)) [32] = J at *
  have hJl : J.length ≤ 536870912 := by omega
  clear hR hA hP hjl hb1 hb2
  by_cases h0 : s.size = 0
  · have h1 : s.toList = [] := by rw [ByteArray.toList_eq]; exact List.eq_nil_of_length_eq_zero (by simpa using h0)
    have hfin : squeezeF s.data.toList = J := by
      rw [HSQ.out, ← ByteArray.toList_eq, h1]; rfl
    have HF := Lib.hid hfin
    clear h0 hfin
    go_wp2_with fail
    go_ret
    exact ⟨by rw [HF.out]; rfl, hb3⟩
  · have h1 : s.toList.isEmpty = false := by
      rw [ByteArray.toList_eq]
      cases h : s.data.toList with
      | nil => exact absurd (by simpa using congrArg List.length h) h0
      | cons x l => rfl
    have h2 : 0 < s.size := by omega
    have hh := Lib.hid (head_at s h2)
    have hb8 : s[0].toNat ≤ 1114111 := by have := s[0].toNat_lt; omega
    clear h0
    go_wp2_with fail
    refine (white_any s[0].toNat w2 hb8).mono ?_
    rintro e w3 ⟨rfl, hb4⟩
    have hb5 := hb3.trans (hb4.mono hb3.size)
    rw [wspN_byte]
    have hfin : squeezeF s.data.toList = if (wsp s[0] && !J.isEmpty) then 32 :: J else J := by rw [HSQ.out, hh.out]
    have HF := Lib.hid hfin
    clear hfin hb8 hb3 hb4
    generalize wsp s[0] = b at *
    cases b with
    | false =>
      go_wp2_with fail
      go_ret
      exact ⟨by rw [HF.out]; rfl, hb5⟩
    | true =>
      cases J with
      | nil =>
        go_wp2_with fail
        go_ret
        exact ⟨by rw [HF.out]; rfl, hb5⟩
      | cons x J =>
        simp only [List.length_cons] at hJl
        go_wp2_with fail
        go_ret
        exact ⟨by rw [HF.out]; exact congrArg (fun z => Ending.returned (Value.string z)) (bs_append [32] (x :: J)), hb5⟩
end Go.Proofs.YtmjbhjmgecabbaaDoor
