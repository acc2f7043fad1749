/- The reference's table: its first lines as a list, and what Look, Class and Classes do with it. -/
import Derived.Test.YtmjbhjmgecabbaaDoorClsPure
import Derived.Test.YtmjbhjmgecabbaaDoorCanonTells
namespace Go.Proofs.YtmjbhjmgecabbaaDoor
open Go.RowKit YtmjbhjmgecabbaaDoorW.PrintWords YtmjbhjmgecabbaaDoorW.PrintLast
set_option linter.unusedVariables false
set_option linter.unusedSimpArgs false

def forms (o : Ign) (L : List ByteArray) : List (List UInt8) := L.map fun s => canonF o s.data.toList
structure RTbl (base : Nat) (o : Ign) (g : Nat) (w : World) (L : List ByteArray) : Prop where
  row : ∃ A c, w.heap[g]? = some (.cells #[.bool o.space, .bool o.white, .bool o.blank, .bool o.case_, .bool o.tabs, .bool o.trail, .slice A L.length c] 33 (0, 0)) ∧ Kd.R Kd.string 9 w base (fun k => k ≠ g) (.slice A L.length c) L
  small : ∀ s ∈ L, s.size ≤ 8388608
  nodup : (forms o L).Nodup
theorem cellR {w : World} {g : Nat} {o : Ign} {v : Value} (h : w.heap[g]? = some (.cells #[.bool o.space, .bool o.white, .bool o.blank, .bool o.case_, .bool o.tabs, .bool o.trail, v] 33 (0, 0))) (hv : v.oneCell' = true) :
    w.cell? ⟨g, 0, none⟩ = some (.bool o.space) ∧ w.cell? ⟨g, 1, none⟩ = some (.bool o.white) ∧ w.cell? ⟨g, 2, none⟩ = some (.bool o.blank) ∧ w.cell? ⟨g, 3, none⟩ = some (.bool o.case_) ∧ w.cell? ⟨g, 4, none⟩ = some (.bool o.tabs) ∧ w.cell? ⟨g, 5, none⟩ = some (.bool o.trail) ∧ w.cell? ⟨g, 6, none⟩ = some v :=
  ⟨(blk_cell h 0).trans rfl, (blk_cell h 1).trans rfl, (blk_cell h 2).trans rfl, (blk_cell h 3).trans rfl, (blk_cell h 4).trans rfl, (blk_cell h 5).trans rfl, (blk_cell h 6).trans rfl⟩
set_option maxHeartbeats 2000000 in
set_option maxRecDepth 100000 in
theorem refLook_any (base : Nat) (line : ByteArray) (o : Ign) (g : Nat) (L : List ByteArray) (w : World) (hT : RTbl base o g w L) (hs : line.size ≤ 8388608) (hL : L.length ≤ 4194304) :
    Calls Tryd.prog 13 #[.pointer (some ⟨g, 0, none⟩), .string line] w fun e w' => e = .returned (.tuple #[.int .i64 (if canonF o line.data.toList ∈ forms o L then (clsN (forms o L) (canonF o line.data.toList) : Int) else 0), .bool ((forms o L).contains (canonF o line.data.toList))]) ∧ Below w.heap.size w w' := by
  obtain ⟨⟨A, c, hrow, hR⟩, hsm, hnd⟩ := hT
  have hcs : ∀ w', Below w.heap.size w w' → _ := fun w' hb => cellR ((hb.block g (blk_lt hrow)).trans hrow) rfl
  have hreads := (Kd.R_reads' hR).2.2
  obtain ⟨rI, hI⟩ : ∃ rI : Int, (if canonF o line.data.toList ∈ forms o L then (clsN (forms o L) (canonF o line.data.toList) : Int) else 0) = rI := ⟨_, rfl⟩
  obtain ⟨rB, hB⟩ : ∃ rB : Bool, (forms o L).contains (canonF o line.data.toList) = rB := ⟨_, rfl⟩
  rw [hI, hB]
  go_enter Tryd.func13, Tryd.ntmps13
  go_wp2_with fail
  go_loopw [6] (fun i wr => ∃ k : Nat, k ≤ L.length ∧ i = .int .i64 k ∧ canonF o line.data.toList ∉ forms o (L.take k) ∧ Below w.heap.size w wr) (fun i _ => L.length - (intOf i).toNat)
  case atStart => exact ⟨0, Nat.zero_le _, rfl, by simp [forms], Below.refl _ _⟩
  case round =>
    obtain ⟨k, hk, rfl, hno, hBr⟩ := hrel
    obtain ⟨c0, c1, c2, c3, c4, c5, c6⟩ := hcs wr hBr
    by_cases hkl : k < L.length
    · obtain ⟨ad, rfl, hcell0⟩ := Kd.at_string hreads (k : Int) (by omega) (by omega)
      simp only [Int.toNat_natCast] at hcell0
      have hcell : ∀ w', Below w.heap.size w w' → w'.cell? (ad.add k) = some (.string (rdOf ByteArray.empty L (k : Int))) := fun w' hb => by
        obtain ⟨ad', e, h⟩ := Kd.at_string (Kd.C_below hreads hb) (k : Int) (by omega) (by omega)
        cases e
        simpa using h
      have hsk : (rdOf ByteArray.empty L (k : Int)).size ≤ 8388608 := by
        have h2 : rdOf ByteArray.empty L (k : Int) = L[k] := by simp [rdOf, hkl]
        rw [h2]
        exact hsm _ (List.getElem_mem hkl)
      have hsplit : L.take (k + 1) = L.take k ++ [rdOf ByteArray.empty L (k : Int)] := take_snoc L k hkl
      generalize rdOf ByteArray.empty L (k : Int) = s at hcell hsk hsplit
      go_wp2_with fail
      have hBr' : Below w.heap.size w wr.drew := below_drew hBr
      refine start_ (n := 13) (S := fun w' => (w'.cell? ⟨g, 0, none⟩ = some (.bool o.space) ∧ w'.cell? ⟨g, 1, none⟩ = some (.bool o.white) ∧ w'.cell? ⟨g, 2, none⟩ = some (.bool o.blank) ∧ w'.cell? ⟨g, 3, none⟩ = some (.bool o.case_) ∧ w'.cell? ⟨g, 4, none⟩ = some (.bool o.tabs) ∧ w'.cell? ⟨g, 5, none⟩ = some (.bool o.trail) ∧ w'.cell? ⟨g, 6, none⟩ = some (.slice (some ad) L.length c)) ∧ w'.cell? (ad.add k) = some (.string s)) (ds := []) #[false, false, false, false, false, false, false, false, false, false, false, false, false] (by kernel_rfl) rfl rfl ⟨hcs wr.drew hBr', hcell wr.drew hBr'⟩ (fun hHeld => ?_)
      refine pure_ (i := 0) (N := some 16) (v := ?_) (a' := ?_) #[true, false, false, false, false, false, false, false, false, false, false, false, false] rfl rfl (by kernel_rfl) (fun _ _ _ h => h) (Or.inl ⟨by rfl, ?_⟩) ?_ ?_
      rotate_left
      · intro w'
        go_simp
        with_reducible rfl
      rotate_left
      · simp only [Act.put, List.setIfInBounds_toArray, List.set_cons_zero, List.set_cons_succ, i64_w, i32_w]
        rfl
      refine pure_ (i := 1) (N := some 17) (v := ?_) (a' := ?_) #[true, true, false, false, false, false, false, false, false, false, false, false, false] rfl rfl (by kernel_rfl) (fun _ _ _ h => h) (Or.inl ⟨by rfl, ?_⟩) ?_ ?_
      rotate_left
      · intro w'
        go_simp
        with_reducible rfl
      rotate_left
      · simp only [Act.put, List.setIfInBounds_toArray, List.set_cons_zero, List.set_cons_succ, i64_w, i32_w]
        rfl
      refine pure_ (i := 2) (N := some 18) (v := ?_) (a' := ?_) #[true, true, true, false, false, false, false, false, false, false, false, false, false] rfl rfl (by kernel_rfl) (fun _ _ _ h => h) (Or.inl ⟨by rfl, ?_⟩) ?_ ?_
      rotate_left
      · intro w'
        go_simp
        with_reducible rfl
      rotate_left
      · simp only [Act.put, List.setIfInBounds_toArray, List.set_cons_zero, List.set_cons_succ, i64_w, i32_w]
        rfl
      refine take_ (i := 3) (N := some 19) (v := ?_) (a' := ?_) #[true, true, true, true, false, false, false, false, false, false, false, false, false] rfl rfl (by kernel_rfl) (fun _ _ _ h => h) (Or.inl ⟨by rfl, ?_⟩) hHeld ?_ ?_
      rotate_left
      · rintro w' ⟨⟨s0, s1, s2, s3, s4, s5, s6⟩, s7⟩
        go_simp
        with_reducible rfl
      rotate_left
      · simp only [Act.put, List.setIfInBounds_toArray, List.set_cons_zero, List.set_cons_succ, i64_w, i32_w]
        rfl
      refine pure_ (i := 4) (N := some 20) (v := ?_) (a' := ?_) #[true, true, true, true, true, false, false, false, false, false, false, false, false] rfl rfl (by kernel_rfl) (fun _ _ _ h => h) (Or.inl ⟨by rfl, ?_⟩) ?_ ?_
      rotate_left
      · intro w'
        go_simp
        with_reducible rfl
      rotate_left
      · simp only [Act.put, List.setIfInBounds_toArray, List.set_cons_zero, List.set_cons_succ, i64_w, i32_w]
        rfl
      refine pure_ (i := 5) (N := some 21) (v := ?_) (a' := ?_) #[true, true, true, true, true, true, false, false, false, false, false, false, false] rfl rfl (by kernel_rfl) (fun _ _ _ h => h) (Or.inl ⟨by rfl, ?_⟩) ?_ ?_
      rotate_left
      · intro w'
        go_simp
        with_reducible rfl
      rotate_left
      · simp only [Act.put, List.setIfInBounds_toArray, List.set_cons_zero, List.set_cons_succ, i64_w, i32_w]
        rfl
      refine take_ (i := 6) (N := some 22) (v := ?_) (a' := ?_) #[true, true, true, true, true, true, true, false, false, false, false, false, false] rfl rfl (by kernel_rfl) (fun _ _ _ h => h) (Or.inl ⟨by rfl, ?_⟩) hHeld ?_ ?_
      rotate_left
      · rintro w' ⟨⟨s0, s1, s2, s3, s4, s5, s6⟩, s7⟩
        go_simp
        with_reducible rfl
      rotate_left
      · simp only [Act.put, List.setIfInBounds_toArray, List.set_cons_zero, List.set_cons_succ, i64_w, i32_w]
        rfl
      refine pure_ (i := 7) (N := some 23) (v := ?_) (a' := ?_) #[true, true, true, true, true, true, true, true, false, false, false, false, false] rfl rfl (by kernel_rfl) (fun _ _ _ h => h) (Or.inl ⟨by rfl, ?_⟩) ?_ ?_
      rotate_left
      · intro w'
        go_simp
        with_reducible rfl
      rotate_left
      · simp only [Act.put, List.setIfInBounds_toArray, List.set_cons_zero, List.set_cons_succ, i64_w, i32_w]
        rfl
      refine pure_ (i := 8) (N := some 24) (v := ?_) (a' := ?_) #[true, true, true, true, true, true, true, true, true, false, false, false, false] rfl rfl (by kernel_rfl) (fun _ _ _ h => h) (Or.inl ⟨by rfl, ?_⟩) ?_ ?_
      rotate_left
      · intro w'
        go_simp
        with_reducible rfl
      rotate_left
      · simp only [Act.put, List.setIfInBounds_toArray, List.set_cons_zero, List.set_cons_succ, i64_w, i32_w]
        rfl
      refine pure_ (i := 9) (N := some 25) (v := ?_) (a' := ?_) #[true, true, true, true, true, true, true, true, true, true, false, false, false] rfl rfl (by kernel_rfl) (fun _ _ _ h => h) (Or.inl ⟨by rfl, ?_⟩) ?_ ?_
      rotate_left
      · intro w'
        go_simp
        with_reducible rfl
      rotate_left
      · simp only [Act.put, List.setIfInBounds_toArray, List.set_cons_zero, List.set_cons_succ, i64_w, i32_w]
        rfl
      refine pure_ (i := 10) (N := some 26) (v := ?_) (a' := ?_) #[true, true, true, true, true, true, true, true, true, true, true, false, false] rfl rfl (by kernel_rfl) (fun _ _ _ h => h) (Or.inl ⟨by rfl, ?_⟩) ?_ ?_
      rotate_left
      · intro w'
        go_simp
        with_reducible rfl
      rotate_left
      · simp only [Act.put, List.setIfInBounds_toArray, List.set_cons_zero, List.set_cons_succ, i64_w, i32_w]
        rfl
      refine take_ (i := 11) (N := some 27) (v := ?_) (a' := ?_) #[true, true, true, true, true, true, true, true, true, true, true, true, false] rfl rfl (by kernel_rfl) (fun _ _ _ h => h) (Or.inl ⟨by rfl, ?_⟩) hHeld ?_ ?_
      rotate_left
      · rintro w' ⟨⟨s0, s1, s2, s3, s4, s5, s6⟩, s7⟩
        go_simp
        with_reducible rfl
      rotate_left
      · simp only [Act.put, List.setIfInBounds_toArray, List.set_cons_zero, List.set_cons_succ, i64_w, i32_w]
        rfl
      refine one_ (i := 12) (N := some 28) #[true, true, true, true, true, true, true, true, true, true, true, true, true] rfl rfl (by kernel_rfl) (by decide) (fun K hK => ?_)
      refine goes_ Tryd.func31 (by kernel_rfl) rfl #[.string s, .string line, .agg #[.bool o.space, .bool o.white, .bool o.blank, .bool o.case_, .bool o.tabs, .bool o.trail]] (by rfl) rfl rfl (by (try simp only [List.map_toArray, List.map_cons, List.map_nil]); first | done | rfl) ?_
      refine (refEqual_any s line o _ hsk hs).mono ?_
      rintro e w1 ⟨rfl, hb1⟩
      refine ⟨_, rfl, ?_⟩
      have hB1 : Below w.heap.size w w1 := hBr'.trans (hb1.mono hBr'.size)
      refine hK.out _ _ ⟨hcs w1 hB1, hcell w1 hB1⟩ (fun hHeld => ?_)
      clear hK K
      refine norm_ (a' := ?_) ?_ ?_
      rotate_left
      · show Act.put _ (some 28) _ = _
        simp only [Act.put, List.setIfInBounds_toArray, List.set_cons_zero, List.set_cons_succ, i64_w, i32_w]
        rfl
      refine done_ (by kernel_rfl) ?_
    
      have hforms : forms o (L.take (k + 1)) = forms o (L.take k) ++ [canonF o s.data.toList] := by rw [hsplit]; simp [forms]
      by_cases heq : canonF o s.data.toList = canonF o line.data.toList
      · have hq : equalF o s.data.toList line.data.toList = true := by unfold equalF; rw [beq_iff_eq]; exact heq
        rw [hq]
        go_wp2_with fail
        have hpre : forms o L = forms o (L.take (k + 1)) ++ forms o (L.drop (k + 1)) := by
          unfold forms
          rw [← List.map_append, List.take_append_drop]
        have hmem : canonF o line.data.toList ∈ forms o (L.take (k + 1)) := by rw [hforms, heq]; simp
        have hidx : clsN (forms o L) (canonF o line.data.toList) = k := by
          unfold clsN
          rw [hpre, idxOf_pre hmem, hforms, List.idxOf_append, if_neg hno, heq]
          simp [forms]
          omega
        have hin : canonF o line.data.toList ∈ forms o L := by rw [hpre]; exact List.mem_append_left _ hmem
        rw [if_pos hin, hidx] at hI
        have hB' : rB = true := by rw [← hB]; simpa using hin
        subst hI
        subst hB'
        go_ret2
        exact ⟨rfl, hB1⟩
      · have hq : equalF o s.data.toList line.data.toList = false := by unfold equalF; rw [beq_eq_false_iff_ne]; exact heq
        rw [hq]
        go_wp2_with fail
        go_roundw
        case rel => exact ⟨k + 1, hkl, by simp; done, by rw [hforms]; simp; exact ⟨hno, fun e => heq e.symm⟩, hB1⟩
        case measure => simp [intOf]; omega
    · have hkk : k = L.length := by omega
      subst hkk
      rw [List.take_length] at hno
      rw [if_neg hno] at hI
      have hB' : rB = false := by rw [← hB]; simpa using hno
      subst hI
      subst hB'
      go_wp2_with fail
      go_ret2
      exact ⟨rfl, hBr⟩
/-- The first lines of the classes, behind a line that is asked for. -/
def refK (o : Ign) (L : List ByteArray) (s : ByteArray) : List ByteArray := if canonF o s.data.toList ∈ forms o L then L else L ++ [s]
theorem refK_forms (o : Ign) (L : List ByteArray) (s : ByteArray) : forms o (refK o L s) = clsK (forms o L) (canonF o s.data.toList) := by
  unfold refK clsK
  split
  · rfl
  · simp [forms]
theorem refK_len (o : Ign) (L : List ByteArray) (s : ByteArray) : (refK o L s).length ≤ L.length + 1 := by unfold refK; split <;> simp
theorem forms_len (o : Ign) (L : List ByteArray) : (forms o L).length = L.length := by simp [forms]
/-- All blocks but tables and rows of strings are as they were. -/
structure KeptT (w w' : World) : Prop where
  size : w.heap.size ≤ w'.heap.size
  kept : ∀ (k : Nat) (x : Obj), w.heap[k]? = some x → (∀ cs fr, x ≠ Obj.cells cs 9 fr) → (∀ cs fr, x ≠ Obj.cells cs 33 fr) → w'.heap[k]? = some x
theorem KeptT.refl (w : World) : KeptT w w := ⟨Nat.le_refl _, fun _ _ h _ _ => h⟩
theorem KeptT.trans {a b c : World} (h : KeptT a b) (h2 : KeptT b c) : KeptT a c := ⟨Nat.le_trans h.size h2.size, fun k x hx h9 h34 => h2.kept k x (h.kept k x hx h9 h34) h9 h34⟩
theorem KeptT.below {a b : World} (h : Below a.heap.size a b) : KeptT a b := ⟨h.size, fun k x hx _ _ => (h.block k (Array.getElem?_eq_some_iff.1 hx).1).trans hx⟩
theorem info_str : (Tryd.prog.info? 9).map (fun i => (i.zero, i.size, i.bytes)) = some (some (.string ⟨#[]⟩), 1, 16) := by kernel_rfl
set_option maxHeartbeats 2000000 in
set_option maxRecDepth 100000 in
theorem refClass_any (base : Nat) (w0 : World) (line : ByteArray) (o : Ign) (g : Nat) (L : List ByteArray) (w : World) (hT : RTbl base o g w L) (hs : line.size ≤ 8388608) (hL : L.length ≤ 4194304) (hB0 : Below base w0 w) (hbw : base ≤ w.heap.size) (hbg : base ≤ g) :
    Calls Tryd.prog 15 #[.pointer (some ⟨g, 0, none⟩), .string line] w fun e w' => e = .returned (.int .i64 (clsN (forms o L) (canonF o line.data.toList) : Int)) ∧ RTbl base o g w' (refK o L line) ∧ Below base w0 w' ∧ KeptT w w' := by
  have hlook := refLook_any base line o g L w hT hs hL
  obtain ⟨⟨A, c, hrow, hR⟩, hsm, hnd⟩ := hT
  have hgw := blk_lt hrow
  by_cases hx : canonF o line.data.toList ∈ forms o L
  · have hc : (forms o L).contains (canonF o line.data.toList) = true := by simpa using hx
    rw [if_pos hx, hc] at hlook
    have hK : refK o L line = L := by unfold refK; rw [if_pos hx]
    rw [hK]
    generalize (clsN (forms o L) (canonF o line.data.toList) : Int) = n at hlook ⊢
    go_enter Tryd.func15, Tryd.ntmps15
    go_wp2_with fail
    refine hlook.mono ?_
    rintro e w1 ⟨rfl, hb1⟩
    go_wp2_with fail
    go_ret
    exact ⟨rfl, ⟨⟨A, c, (hb1.block g hgw).trans hrow, Kd.R_below hR hb1⟩, hsm, hnd⟩, hB0.trans (hb1.mono hbw), KeptT.below hb1⟩
  · have hc : (forms o L).contains (canonF o line.data.toList) = false := by simpa using hx
    rw [if_neg hx, hc] at hlook
    have hK : refK o L line = L ++ [line] := by unfold refK; rw [if_neg hx]
    have hnd' := clsK_nodup _ (canonF o line.data.toList) hnd
    rw [← refK_forms, hK] at hnd'
    have hi : clsN (forms o L) (canonF o line.data.toList) = L.length := by unfold clsN; rw [List.idxOf_eq_length hx, forms_len]
    rw [hK, hi]
    go_enter Tryd.func15, Tryd.ntmps15
    go_wp2_with fail
    refine hlook.mono ?_
    rintro e w1 ⟨rfl, hb1⟩
    have hrow1 := (hb1.block g hgw).trans hrow
    have hR1 := Kd.R_below hR hb1
    have hB1 := hB0.trans (hb1.mono hbw)
    have hbw1 : base ≤ w1.heap.size := Nat.le_trans hbw hb1.size
    have hk1 := KeptT.below hb1
    obtain ⟨c0, c1, c2, c3, c4, c5, c6⟩ := cellR hrow1 rfl
    go_wp2_with (first | (at_builtin; refine Kd.R_append Kd.string (w0 := w0) base rfl (.tmp 24) (.tmp 26) 27 9 (.string ⟨#[]⟩) 16 rfl Tryd.underlying27 info_str rfl (by decide) (by omega) (.slice A L.length c) L line [.string line] (fun k => k ≠ g) (fun _ => False) rfl rfl rfl (fun _ hk => hk.elim) ?aF ?aO ?aB ?aS ?aL ?_; (case aF => intro j hj; have := blk_lt hrow1; omega); (case aO => exact hR1); (case aB => exact hB1); (case aS => exact hbw1); (case aL => omega); intro v1 w2 hO2 hB2 hg2 hat2; have hrow2 := blk_grown hrow1 hg2 (Kd.R_ne hR1 hrow1 (by decide)); obtain ⟨A2, c2_, rfl⟩ := Kd.R_slice hO2; have hfr : w2.frozen? ⟨g, 6, none⟩ = false := blk_frozen hrow2 6; have hc6 : w2.cell? ⟨g, 6, none⟩ = some (.slice A L.length c) := (blk_cell hrow2 6).trans rfl) | fail)
    go_ret
    have hsize : (w2.setCell ⟨g, 6, none⟩ (.slice A2 (L.length + 1) c2_)).heap.size = w2.heap.size := by simp [World.setCell]
    refine ⟨rfl, ⟨⟨A2, c2_, ?_, ?_⟩, ?_, hnd'⟩, hB2.setCell hbg _, hk1.trans ⟨?_, ?_⟩⟩
    · have := blk_set hrow2 6 (.slice A2 (L.length + 1) c2_)
      simpa using this
    · exact Kd.R_far hO2 (fun k hk => hk) _
    · intro s hs'
      rcases List.mem_append.1 hs' with h | h
      · exact hsm s h
      · obtain rfl : s = line := by simpa using h
        exact hs
    · rw [hsize]; exact hg2.size
    · intro k x hx' h9 h34
      have hkg : k ≠ g := by
        rintro rfl
        exact h34 _ _ (Option.some.inj (hx'.symm.trans hrow1))
      have hkr : some k ≠ (Value.slice A L.length c).ownBlock := by
        intro e
        obtain ⟨cells, hc9⟩ := Kd.R_typed hR1 k e.symm
        exact h9 _ _ (Option.some.inj (hx'.symm.trans hc9))
      have hk2 := (hg2.block k (Array.getElem?_eq_some_iff.1 hx').1 hkr).trans hx'
      exact (Below.heap_setCell w2 ⟨g, 6, none⟩ _ k hkg).trans hk2
end Go.Proofs.YtmjbhjmgecabbaaDoor
