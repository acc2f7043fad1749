/- intern's table: its classes as a list of forms, and what New, Class and Size do with it, for tables of at most 2^22 classes and lines of at most 2^23 bytes. -/
import Derived.Test.YtmjbhjmgecabbaaDoorEqual
import Derived.Maps.OwnSet
import Derived.Maps.OwnOps
import Derived.Maps.AppendAt
import Derived.StringKeys
namespace Go.Proofs.YtmjbhjmgecabbaaDoor
open Go.RowKit YtmjbhjmgecabbaaDoorW.PrintWords
open Go.Maps

theorem snoc_rec {α : Type} {motive : List α → Prop} (nil : motive []) (snoc : ∀ l a, motive l → motive (l ++ [a])) (l : List α) : motive l := by
  rw [← List.reverse_reverse l]
  induction l.reverse with
  | nil => exact nil
  | cons a t ih => rw [List.reverse_cons]; exact snoc _ _ ih
/-- A table with the classes 'ks', as the map that it is. -/
def tblP (ks : List (List UInt8)) : DataW Unit × Nat := ks.foldl (fun p k => (p.1.put (.string k) (.lit (.int .i64 p.2)), p.2 + 1)) (.map [], 0)
def tblD (ks : List (List UInt8)) : DataW Unit := (tblP ks).1
theorem tblP_two (ks : List (List UInt8)) : ∀ p : DataW Unit × Nat, (ks.foldl (fun p k => (p.1.put (.string k) (.lit (.int .i64 p.2)), p.2 + 1)) p).2 = p.2 + ks.length := by
  induction ks with
  | nil => intro p; rfl
  | cons k ks ih => intro p; rw [List.foldl_cons, ih]; simp; omega
theorem tblD_snoc (ks : List (List UInt8)) (k : List UInt8) : tblD (ks ++ [k]) = (tblD ks).put (.string k) (.lit (.int .i64 ks.length)) := by
  have h := tblP_two ks (.map [], 0)
  unfold tblD tblP
  rw [List.foldl_append]
  simp only [List.foldl_cons, List.foldl_nil]
  rw [h]
  simp
theorem tbl_tidy (ks : List (List UInt8)) : Tidy (tblD ks) := by
  induction ks using snoc_rec with
  | nil => exact tidy_empty
  | snoc ks k ih => rw [tblD_snoc]; exact ih.put (k := .string k) trivial _
theorem tbl_has (ks : List (List UInt8)) (x : List UInt8) : Maps.has (tblD ks) (.string x) = ks.contains x := by
  induction ks using snoc_rec with
  | nil => rfl
  | snoc ks k ih =>
    rw [tblD_snoc]
    by_cases h : x = k
    · subst h
      rw [has_put_same (k := .string x) (tbl_tidy ks).isMap trivial]
      simp
    · rw [has_put_other (by intro e; injection e with e; exact h e), ih]
      simp [h]
theorem tbl_size (ks : List (List UInt8)) (hn : ks.Nodup) : Maps.size (tblD ks) = ks.length := by
  induction ks using snoc_rec with
  | nil => rfl
  | snoc ks k ih =>
    rw [List.nodup_append] at hn
    have hk : k ∉ ks := fun h => hn.2.2 k h k (by simp) rfl
    rw [tblD_snoc, size_put (tbl_tidy ks), tbl_has, ih hn.1]
    simp [hk]
theorem tbl_at (ks : List (List UInt8)) (hn : ks.Nodup) (x : List UInt8) (z : DataW Unit) : (tblD ks).atKey (.string x) z = if x ∈ ks then .lit (.int .i64 (ks.idxOf x : Nat)) else z := by
  induction ks using snoc_rec with
  | nil => rfl
  | snoc ks k ih =>
    rw [List.nodup_append] at hn
    have hk : k ∉ ks := fun h => hn.2.2 k h k (by simp) rfl
    rw [tblD_snoc]
    by_cases h : x = k
    · subst h
      rw [atKey_put_same (k := .string x) (tbl_tidy ks).isMap trivial]
      simp [List.idxOf_append, hk]
    · rw [atKey_put_other (by intro e; injection e with e; exact h e), ih hn.1]
      by_cases hx : x ∈ ks <;> simp [h, hx, List.idxOf_append]
/-- A class that is asked for: its number, and the classes behind it. -/
def clsN (ks : List (List UInt8)) (x : List UInt8) : Nat := ks.idxOf x
def clsK (ks : List (List UInt8)) (x : List UInt8) : List (List UInt8) := if x ∈ ks then ks else ks ++ [x]
theorem clsK_nodup (ks : List (List UInt8)) (x : List UInt8) (h : ks.Nodup) : (clsK ks x).Nodup := by
  unfold clsK
  split
  · exact h
  · rename_i hx
    exact List.nodup_append.2 ⟨h, by simp, by rintro a ha b hb rfl; simp at hb; subst hb; exact hx ha⟩
theorem clsK_len (ks : List (List UInt8)) (x : List UInt8) : (clsK ks x).length ≤ ks.length + 1 := by unfold clsK; split <;> simp
theorem ownsMap_block {H : Type} {P : Program} {k : TypeId} {R : Value → Option (DataW H × List MemPlace)} {b n : Nat} {D : DataW H} {w w' : World} (h : w.ownsMap P k R b n D) (hb : w'.heap[b]? = w.heap[b]?) : w'.ownsMap P k R b n D := by
  obtain ⟨es, clock, h1, h2⟩ := h
  exact ⟨es, clock, hb.trans h1, h2⟩
/-- A table lies at block g, its map at block b. -/
structure Tbl (o : Ign) (g b : Nat) (w : World) (ks : List (List UInt8)) : Prop where
  row : w.heap[g]? = some (.cells #[.bool o.space, .bool o.white, .bool o.blank, .bool o.case_, .bool o.tabs, .bool o.trail, .map (some b)] 68 (0, 0))
  own : w.ownsMap Tryd.prog 9 (plainElem (H := Unit) Tryd.prog 3) b ks.length (tblD ks)
  nodup : ks.Nodup
theorem Tbl.lt {o : Ign} {g b : Nat} {w : World} {ks : List (List UInt8)} (h : Tbl o g b w ks) : g < w.heap.size ∧ b < w.heap.size := by
  refine ⟨blk_lt h.row, ?_⟩
  obtain ⟨es, clock, h1, _⟩ := h.own
  exact (Array.getElem?_eq_some_iff.1 h1).1
theorem Tbl.ne {o : Ign} {g b : Nat} {w : World} {ks : List (List UInt8)} (h : Tbl o g b w ks) : g ≠ b := by
  rintro rfl
  obtain ⟨es, clock, h1, _⟩ := h.own
  have := h.row.symm.trans h1
  cases this
theorem Tbl.grown {o : Ign} {g b : Nat} {w w' : World} {ks : List (List UInt8)} (h : Tbl o g b w ks) (hb : Below w.heap.size w w') : Tbl o g b w' ks :=
  ⟨(hb.block g h.lt.1).trans h.row, ownsMap_block h.own (hb.block b h.lt.2), h.nodup⟩
theorem cellT {w : World} {g b : Nat} {o : Ign} (h : w.heap[g]? = some (.cells #[.bool o.space, .bool o.white, .bool o.blank, .bool o.case_, .bool o.tabs, .bool o.trail, .map (some b)] 68 (0, 0))) :
    w.cell? ⟨g, 0, none⟩ = some (.bool o.space) ∧ w.cell? ⟨g, 1, none⟩ = some (.bool o.white) ∧ w.cell? ⟨g, 2, none⟩ = some (.bool o.blank) ∧ w.cell? ⟨g, 3, none⟩ = some (.bool o.case_) ∧ w.cell? ⟨g, 4, none⟩ = some (.bool o.tabs) ∧ w.cell? ⟨g, 5, none⟩ = some (.bool o.trail) ∧ w.cell? ⟨g, 6, none⟩ = some (.map (some b)) :=
  ⟨(blk_cell h 0).trans rfl, (blk_cell h 1).trans rfl, (blk_cell h 2).trans rfl, (blk_cell h 3).trans rfl, (blk_cell h 4).trans rfl, (blk_cell h 5).trans rfl, (blk_cell h 6).trans rfl⟩
theorem lawS : Keyed Tryd.prog 9 := string_keyed Tryd.underlying9
theorem zeroI (w : World) : (zeroValue 3).run Tryd.prog w = .ok (.int .i64 0) w := by kernel_rfl
theorem keyS (o : Ign) (s : ByteArray) (hs : s.size ≤ 8388608) : keyOf Tryd.prog 9 (.string ⟨(canonF o s.data.toList).toArray⟩) = some (.string (canonF o s.data.toList)) := by
  have h := Go.WideMaps.keyOf_string_mk (P := Tryd.prog) (k := 9) Tryd.underlying9 (s := ⟨(canonF o s.data.toList).toArray⟩) (by
    have h1 := canonF_le o s.data.toList
    have h2 : s.data.toList.length = s.size := by simp
    have h3 : (⟨(canonF o s.data.toList).toArray⟩ : ByteArray).size = (canonF o s.data.toList).length := by simp [ByteArray.size]
    rw [h3]
    unfold maxLen
    omega)
  simpa using h
theorem tbl_at_nat (ks : List (List UInt8)) (hn : ks.Nodup) (x : List UInt8) (c : Int) (hx : x ∈ ks) (h : (tblD ks).atKey (.string x) (.lit (.int .i64 0)) = .lit (.int .i64 c)) : c = (ks.idxOf x : Nat) := by
  rw [tbl_at ks hn x, if_pos hx] at h
  injection h with h
  injection h with _ h
  exact h.symm
theorem tbl_at_none (ks : List (List UInt8)) (hn : ks.Nodup) (x : List UInt8) (c : Int) (hx : x ∉ ks) (h : (tblD ks).atKey (.string x) (.lit (.int .i64 0)) = .lit (.int .i64 c)) : c = 0 := by
  rw [tbl_at ks hn x, if_neg hx] at h
  injection h with h
  injection h with _ h
  exact h.symm
set_option maxRecDepth 100000 in
theorem class_any (line : ByteArray) (o : Ign) (g b : Nat) (ks : List (List UInt8)) (w : World) (hT : Tbl o g b w ks) (hs : line.size ≤ 8388608) (hn : ks.length ≤ 4194304) :
    Calls Tryd.prog 14 #[.pointer (some ⟨g, 0, none⟩), .string line] w fun e w' => e = .returned (.int .i64 (clsN ks (canonF o line.data.toList) : Nat)) ∧ Tbl o g b w' (clsK ks (canonF o line.data.toList)) ∧ w.grownBy w' (some b) := by
  have hkey := keyS o line hs
  have hc := fun w => canon_any line o w hs
  generalize canonF o line.data.toList = key at hkey hc ⊢
  obtain ⟨c0, c1, c2, c3, c4, c5, c6⟩ := cellT hT.row
  have hsz := tbl_size ks hT.nodup
  have hTk := clsK_nodup ks key hT.nodup
  by_cases hx : key ∈ ks
  · have hh : Maps.has (tblD ks) (.string key) = true := by rw [tbl_has]; simpa using hx
    unfold clsN clsK
    rw [if_pos hx]
    go_enter Tryd.func14, Tryd.ntmps14
    go_wp2_with fail
    refine (hc _).mono ?_
    rintro e w1 ⟨rfl, hb1⟩
    have hT1 := hT.grown hb1
    obtain ⟨c0, c1, c2, c3, c4, c5, c6⟩ := cellT hT1.row
    go_wp2_with (first | (at_lookup; refine wpList_lookup_own_ok_int _ rfl _ _ 66 rfl 9 3 .i64 lawS Tryd.underlying66 Tryd.underlying3 (zeroI _) b ks.length (tblD ks) rfl hT1.own _ _ rfl hkey ?_; intro c hat hwc; rw [hh]; obtain rfl := tbl_at_nat ks hT.nodup key c hx hat; clear hat) | fail)
    go_ret
    exact ⟨rfl, hT1, grown_of_below hb1 (some b)⟩
  · have hh : Maps.has (tblD ks) (.string key) = false := by rw [tbl_has]; simpa using hx
    unfold clsK at hTk
    unfold clsN clsK
    rw [if_neg hx] at hTk ⊢
    rw [List.idxOf_eq_length hx]
    go_enter Tryd.func14, Tryd.ntmps14
    go_wp2_with fail
    refine (hc _).mono ?_
    rintro e w1 ⟨rfl, hb1⟩
    have hT1 := hT.grown hb1
    obtain ⟨c0, c1, c2, c3, c4, c5, c6⟩ := cellT hT1.row
    have hown := hT1.own
    go_wp2_with (first | (at_lookup; refine wpList_lookup_own_ok_int _ rfl _ _ 66 rfl 9 3 .i64 lawS Tryd.underlying66 Tryd.underlying3 (zeroI _) b ks.length (tblD ks) rfl hown _ _ rfl hkey ?_; intro c hat hwc; rw [hh]; clear hat) | (at_len; refine wpList_len_own _ rfl _ 66 rfl 9 3 Tryd.underlying66 _ b ks.length (tblD ks) rfl hown ?_; rw [hsz]) | (at_mapUpdate; refine wpList_mapUpdate_own _ rfl _ _ _ 66 rfl 9 3 lawS Tryd.underlying66 _ b ks.length _ rfl hown (by unfold maxLen; omega) _ _ _ rfl rfl hkey _ [] (plainElem_int Tryd.underlying3 (WalkArith.wf_i64 (by omega))) ?_; intro w2 hown2 hgrow2) | fail)
    go_ret
    refine ⟨rfl, ⟨(hgrow2.block g hT1.lt.1 (by have := hT1.ne; simp; omega)).trans hT1.row, ?_, hTk⟩, (grown_of_below hb1 (some b)).trans hgrow2⟩
    rw [tblD_snoc]
    simpa using hown2
theorem size_any (o : Ign) (g b : Nat) (ks : List (List UInt8)) (w : World) (hT : Tbl o g b w ks) :
    Calls Tryd.prog 11 #[.pointer (some ⟨g, 0, none⟩)] w fun e w' => e = .returned (.int .i64 (ks.length : Nat)) ∧ w' = w := by
  go_enter Tryd.func11, Tryd.ntmps11
  obtain ⟨c0, c1, c2, c3, c4, c5, c6⟩ := cellT hT.row
  have hsz := tbl_size ks hT.nodup
  have hown := hT.own
  go_wp2_with (first | (at_len; refine wpList_len_own _ rfl _ 66 rfl 9 3 Tryd.underlying66 _ b ks.length (tblD ks) rfl hown ?_; rw [hsz]) | fail)
  go_ret
  exact ⟨rfl, rfl⟩
theorem new_any (o : Ign) (w : World) :
    Calls Tryd.prog 10 #[.agg #[.bool o.space, .bool o.white, .bool o.blank, .bool o.case_, .bool o.tabs, .bool o.trail]] w fun e w' => ∃ g b, e = .returned (.pointer (some ⟨g, 0, none⟩)) ∧ w.heap.size ≤ g ∧ w.heap.size ≤ b ∧ Tbl o g b w' [] ∧ Below w.heap.size w w' := by
  have hmm := @run_makeMap Tryd.prog
  go_enter Tryd.func10, Tryd.ntmps10
  go_wp2_with fail
  have e1 : ∀ (W : World) (x : Obj), (W.alloc x).heap.size = W.heap.size + 1 := fun W x => by show (W.heap.push x).size = _; simp
  have hB : Below w.heap.size w (w.alloc (.cells #[.bool o.space, .bool o.white, .bool o.blank, .bool o.case_, .bool o.tabs, .bool o.trail] 23)) := below_alloc (Below.refl _ _) _
  have h1 := e1 w (.cells #[.bool o.space, .bool o.white, .bool o.blank, .bool o.case_, .bool o.tabs, .bool o.trail] 23)
  generalize w.alloc (.cells #[.bool o.space, .bool o.white, .bool o.blank, .bool o.case_, .bool o.tabs, .bool o.trail] 23) = w1 at hB h1 ⊢
  rw [← h1]
  have hO := World.ownsMap_made w1 Tryd.prog 9 (plainElem (H := Unit) Tryd.prog 3)
  have hB2 := below_alloc hB (.map #[] 0)
  have h2 := e1 w1 (.map #[] 0)
  generalize w1.alloc (.map #[] 0) = w2 at hO hB2 h2 ⊢
  rw [← h2]
  have hN := heap_alloc_new w2 (.cells #[.bool o.space, .bool o.white, .bool o.blank, .bool o.case_, .bool o.tabs, .bool o.trail, .map (some w1.heap.size)] 68)
  have hB3 := below_alloc hB2 (.cells #[.bool o.space, .bool o.white, .bool o.blank, .bool o.case_, .bool o.tabs, .bool o.trail, .map (some w1.heap.size)] 68)
  have hB4 := below_alloc (Below.refl w2.heap.size w2) (.cells #[.bool o.space, .bool o.white, .bool o.blank, .bool o.case_, .bool o.tabs, .bool o.trail, .map (some w1.heap.size)] 68)
  generalize w2.alloc (.cells #[.bool o.space, .bool o.white, .bool o.blank, .bool o.case_, .bool o.tabs, .bool o.trail, .map (some w1.heap.size)] 68) = w3 at hN hB3 hB4 ⊢
  go_ret
  exact ⟨_, _, rfl, by omega, by omega, ⟨hN, ownsMap_block hO (hB4.block _ (by omega)), List.nodup_nil⟩, hB3⟩
end Go.Proofs.YtmjbhjmgecabbaaDoor
