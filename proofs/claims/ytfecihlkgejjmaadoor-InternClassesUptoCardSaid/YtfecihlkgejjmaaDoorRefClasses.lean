/- The reference's Classes: the same numbers as the program's. -/
import Derived.Test.YtfecihlkgejjmaaDoorRefTbl
namespace Go.Proofs.YtfecihlkgejjmaaDoor
open Go.RowKit YtfecihlkgejjmaaDoorW.PrintWords YtfecihlkgejjmaaDoorW.PrintLast
set_option linter.unusedVariables false
set_option linter.unusedSimpArgs false

def refFold (o : Ign) (L : List ByteArray) (l : List ByteArray) : List ByteArray := l.foldl (refK o) L
theorem refFold_snoc (o : Ign) (L l : List ByteArray) (s : ByteArray) : refFold o L (l ++ [s]) = refK o (refFold o L l) s := by unfold refFold; rw [List.foldl_append]; rfl
theorem refFold_forms (o : Ign) (L l : List ByteArray) : forms o (refFold o L l) = (clsFold o (forms o L) l).2 := by
  induction l using snoc_rec with
  | nil => rfl
  | snoc l s ih => rw [refFold_snoc, refK_forms, ih, clsFold_snoc]; rfl
theorem R_kept {w w' : World} {base : Nat} {ok : Nat → Prop} {v : Value} {xs : List Int} (h : Kd.R (Kd.int .i64) 3 w base ok v xs) (hk : KeptT w w') : Kd.R (Kd.int .i64) 3 w' base ok v xs := by
  refine Kd.R_mono (Kd.R_move (Kd.R_bound h) (fun k hk' => ?_)) (fun _ h' => h'.1)
  obtain ⟨_, _, hlt, q, hq, cells, hc⟩ := hk'
  obtain rfl : q = 3 := by simpa [Kd.int, Kd.scalar] using hq
  rw [hc]
  exact hk.kept k _ hc (fun cs fr e => by cases e) (fun cs fr e => by cases e)
theorem RTbl.over {base : Nat} {o : Ign} {g : Nat} {w w' : World} {L : List ByteArray} {u : Value} {ys : List Int} {ok : Nat → Prop} (h : RTbl base o g w L) (hu : Kd.R (Kd.int .i64) 3 w base ok u ys) (hg : w.grownBy w' u.ownBlock) : RTbl base o g w' L := by
  obtain ⟨⟨A, c, hrow, hR⟩, hsm, hnd⟩ := h
  exact ⟨⟨A, c, blk_grown hrow hg (Kd.R_ne hu hrow (by decide)), Kd.R_over' hR (Kd.R_typed hu) (by decide) hg⟩, hsm, hnd⟩
theorem RTbl.below {base : Nat} {o : Ign} {g : Nat} {w w' : World} {L : List ByteArray} (h : RTbl base o g w L) (hb : Below w.heap.size w w') : RTbl base o g w' L := by
  obtain ⟨⟨A, c, hrow, hR⟩, hsm, hnd⟩ := h
  exact ⟨⟨A, c, (hb.block g (blk_lt hrow)).trans hrow, Kd.R_below hR hb⟩, hsm, hnd⟩
set_option maxHeartbeats 4000000 in
set_option maxRecDepth 100000 in
theorem refClasses_any (o : Ign) (l0 l1 : List ByteArray) (A0 A1 : Option Addr) (c0 c1 : Nat) (w : World) (hr0 : Kd.C Kd.string w A0 l0.length l0) (hr1 : Kd.C Kd.string w A1 l1.length l1) (hs0 : ∀ s ∈ l0, s.size ≤ 8388608) (hs1 : ∀ s ∈ l1, s.size ≤ 8388608) (hn : l0.length + l1.length ≤ 4194304)
    (r1 : List Int) (ks1 : List (List UInt8)) (h1 : clsFold o [] l0 = (r1, ks1)) (r2 : List Int) (ks2 : List (List UInt8)) (h2 : clsFold o ks1 l1 = (r2, ks2)) :
    Calls Tryd.prog 24 #[.slice A0 l0.length c0, .slice A1 l1.length c1, .agg #[.bool o.space, .bool o.white, .bool o.blank, .bool o.case_, .bool o.tabs, .bool o.trail]] w fun e w' => ∃ v0_ v1_ : Value, e = .returned (.tuple #[v0_, v1_, .int .i64 ((ks2.length : Nat) : Int)]) ∧ Kd.R (Kd.int .i64) 3 w' w.heap.size (fun k_ => some k_ ≠ (v1_ : Value).ownBlock) v0_ r1 ∧ Kd.R (Kd.int .i64) 3 w' w.heap.size (fun k_ => some k_ ≠ (v0_ : Value).ownBlock) v1_ r2 ∧ Below w.heap.size w w' := by
  go_enter Tryd.func24, Tryd.ntmps24
  go_wp2_with fail
  have hBa := below_alloc (Below.refl w.heap.size w) (.cells #[.bool o.space, .bool o.white, .bool o.blank, .bool o.case_, .bool o.tabs, .bool o.trail] 23)
  have e1 : (w.alloc (.cells #[.bool o.space, .bool o.white, .bool o.blank, .bool o.case_, .bool o.tabs, .bool o.trail] 23)).heap.size = w.heap.size + 1 := by show (w.heap.push _).size = _; simp
  generalize w.alloc (.cells #[.bool o.space, .bool o.white, .bool o.blank, .bool o.case_, .bool o.tabs, .bool o.trail] 23) = Wa at hBa e1 ⊢
  have hBb := below_alloc hBa (.cells #[.bool o.space, .bool o.white, .bool o.blank, .bool o.case_, .bool o.tabs, .bool o.trail, .slice none 0 0] 34)
  have hrow := alloc_new Wa (.cells #[.bool o.space, .bool o.white, .bool o.blank, .bool o.case_, .bool o.tabs, .bool o.trail, .slice none 0 0] 34)
  generalize Wa.alloc (.cells #[.bool o.space, .bool o.white, .bool o.blank, .bool o.case_, .bool o.tabs, .bool o.trail, .slice none 0 0] 34) = Wb at hBb hrow ⊢
  rw [← e1]
  have hbg : w.heap.size ≤ Wa.heap.size := by omega
  generalize Wa.heap.size = g at hrow hbg ⊢
  have hTb : RTbl w.heap.size o g Wb (refFold o [] (l0.take 0)) := ⟨⟨none, 0, hrow, Kd.R_nil _ _ _ _ _⟩, by simp [refFold], List.nodup_nil⟩
  go_loopw [10, 12] (fun v i wr => ∃ k : Nat, k ≤ l0.length ∧ i = .int .i64 k ∧ Kd.R (Kd.int .i64) 3 wr w.heap.size (fun k => Wb.heap.size ≤ k) v (clsFold o [] (l0.take k)).1 ∧ RTbl w.heap.size o g wr (refFold o [] (l0.take k)) ∧ Below w.heap.size w wr ∧ Wb.heap.size ≤ wr.heap.size) (fun _ i _ => l0.length - (intOf i).toNat)
  case atStart => exact ⟨0, Nat.zero_le _, rfl, Kd.R_nil _ _ _ _ _, hTb, hBb, Nat.le_refl _⟩
  case round =>
    obtain ⟨k, hk, rfl, hO, hTr, hBr, hWr⟩ := hrel
    by_cases hkl : k < l0.length
    · obtain ⟨ad, rfl, hcell⟩ := Kd.at_string (Kd.C_below hr0 hBr) (k : Int) (by omega) (by omega)
      simp only [Int.toNat_natCast] at hcell
      have hlen := clsFold_len o [] (l0.take k)
      simp only [List.length_nil, Nat.zero_add] at hlen
      have hlf := refFold_forms o [] (l0.take k)
      have htk : (l0.take k).length = k := by simp; omega
      have hsk : (rdOf ByteArray.empty l0 (k : Int)).size ≤ 8388608 := by
        have h2 : rdOf ByteArray.empty l0 (k : Int) = l0[k] := by simp [rdOf, hkl]
        rw [h2]
        exact hs0 _ (List.getElem_mem hkl)
      have hstep : clsFold o [] (l0.take (k + 1)) = clsStep o (clsFold o [] (l0.take k)) (rdOf ByteArray.empty l0 (k : Int)) := by rw [take_snoc l0 k hkl, clsFold_snoc]
      have hstep2 : refFold o [] (l0.take (k + 1)) = refK o (refFold o [] (l0.take k)) (rdOf ByteArray.empty l0 (k : Int)) := by rw [take_snoc l0 k hkl, refFold_snoc]
      generalize rdOf ByteArray.empty l0 (k : Int) = s at hcell hsk hstep hstep2
      rw [show forms o [] = [] from rfl] at hlf
      have hlL : (refFold o [] (l0.take k)).length = (clsFold o [] (l0.take k)).2.length := by rw [← hlf, forms_len]
      generalize clsFold o [] (l0.take k) = p at hO hlf hlL hlen hstep
      generalize refFold o [] (l0.take k) = Lk at hTr hlf hlL hstep2
      have hcl := refClass_any w.heap.size w s o g Lk wr hTr hsk (by omega) hBr hBr.size hbg
      rw [hlf] at hcl
      go_wp2_with (first | (go_at_call 22; refine hcl.mono ?_; rintro e w1 ⟨rfl, hT1, hB1, hK1⟩) | (at_builtin; refine Kd.R_append (Kd.int .i64) (w0 := w) w.heap.size rfl (.tmp 23) (.tmp 30) 40 3 (.int .i64 0) 8 rfl Tryd.underlying40 info_int rfl (by decide) (by omega) u10 p.1 (clsN p.2 (canonF o s.data.toList) : Int) [.int .i64 (clsN p.2 (canonF o s.data.toList) : Int)] (fun k => Wb.heap.size ≤ k) (fun _ => False) rfl rfl rfl (fun _ hk => hk.elim) ?aF ?aO ?aB ?aS ?aL ?_; (case aF => intro j hj; have := hK1.size; omega); (case aO => exact R_kept hO hK1); (case aB => exact hB1); (case aS => exact hB1.size); (case aL => omega); intro v1 w2 hO2 hB2 hg2 hat2) | fail)
      have hT2 := hT1.over (R_kept hO hK1) hg2
      have hsz2 : Wb.heap.size ≤ w2.heap.size := Nat.le_trans hWr (Nat.le_trans hK1.size hg2.size)
      go_roundw
      case rel => exact ⟨k + 1, hkl, by simp; done, by rw [hstep]; exact hO2, by rw [hstep2]; exact hT2, hB2, hsz2⟩
      case measure => simp [intOf]; omega
    · have hkk : k = l0.length := by omega
      subst hkk
      rw [List.take_length] at hO hTr
      go_wp2_with fail
      have hlen1 := (clsFold_len o [] l0).2
      have hf0 := refFold_forms o [] l0
      rw [show forms o [] = [] from rfl, h1] at hf0
      rw [h1] at hO hlen1
      simp only [List.length_nil, Nat.zero_add] at hf0 hlen1
      clear hWr
      generalize wr = Wc at *
      have hTb : RTbl w.heap.size o g Wc (refFold o (refFold o [] l0) (l1.take 0)) := hTr
      have hBb := hBr
      have hO0 : Kd.R (Kd.int .i64) 3 Wc w.heap.size (fun k => k < Wc.heap.size) u10 r1 := Kd.R_mono (Kd.R_bound hO) (fun k hk => hk.2.2.1)
      generalize u10 = v0 at *
      clear hO hTr hBr
      go_loopw [11, 13] (fun v i wr => ∃ k : Nat, k ≤ l1.length ∧ i = .int .i64 k ∧ Kd.R (Kd.int .i64) 3 wr w.heap.size (fun k => Wc.heap.size ≤ k) v (clsFold o ks1 (l1.take k)).1 ∧ RTbl w.heap.size o g wr (refFold o (refFold o [] l0) (l1.take k)) ∧ Below w.heap.size w wr ∧ Wc.heap.size ≤ wr.heap.size ∧ Kd.R (Kd.int .i64) 3 wr w.heap.size (fun k => k < Wc.heap.size) v0 r1) (fun _ i _ => l1.length - (intOf i).toNat)
      case atStart => exact ⟨0, Nat.zero_le _, rfl, Kd.R_nil _ _ _ _ _, hTb, hBb, Nat.le_refl _, hO0⟩
      case round =>
        obtain ⟨k, hk, rfl, hO, hTr, hBr, hWr, hV0⟩ := hrel
        by_cases hkl : k < l1.length
        · obtain ⟨ad, rfl, hcell⟩ := Kd.at_string (Kd.C_below hr1 hBr) (k : Int) (by omega) (by omega)
          simp only [Int.toNat_natCast] at hcell
          have hlen := clsFold_len o ks1 (l1.take k)
          have hlf := refFold_forms o (refFold o [] l0) (l1.take k)
          have htk : (l1.take k).length = k := by simp; omega
          have hsk : (rdOf ByteArray.empty l1 (k : Int)).size ≤ 8388608 := by
            have h2 : rdOf ByteArray.empty l1 (k : Int) = l1[k] := by simp [rdOf, hkl]
            rw [h2]
            exact hs1 _ (List.getElem_mem hkl)
          have hstep : clsFold o ks1 (l1.take (k + 1)) = clsStep o (clsFold o ks1 (l1.take k)) (rdOf ByteArray.empty l1 (k : Int)) := by rw [take_snoc l1 k hkl, clsFold_snoc]
          have hstep2 : refFold o (refFold o [] l0) (l1.take (k + 1)) = refK o (refFold o (refFold o [] l0) (l1.take k)) (rdOf ByteArray.empty l1 (k : Int)) := by rw [take_snoc l1 k hkl, refFold_snoc]
          generalize rdOf ByteArray.empty l1 (k : Int) = s at hcell hsk hstep hstep2
          rw [hf0] at hlf
          have hlL : (refFold o (refFold o [] l0) (l1.take k)).length = (clsFold o ks1 (l1.take k)).2.length := by rw [← hlf, forms_len]
          generalize clsFold o ks1 (l1.take k) = p at hO hlf hlL hlen hstep
          generalize refFold o (refFold o [] l0) (l1.take k) = Lk at hTr hlf hlL hstep2
          have hcl := refClass_any w.heap.size w s o g Lk wr hTr hsk (by omega) hBr hBr.size hbg
          rw [hlf] at hcl
          go_wp2_with (first | (go_at_call 22; refine hcl.mono ?_; rintro e w1 ⟨rfl, hT1, hB1, hK1⟩) | (at_builtin; refine Kd.R_append (Kd.int .i64) (w0 := w) w.heap.size rfl (.tmp 38) (.tmp 45) 40 3 (.int .i64 0) 8 rfl Tryd.underlying40 info_int rfl (by decide) (by omega) u11 p.1 (clsN p.2 (canonF o s.data.toList) : Int) [.int .i64 (clsN p.2 (canonF o s.data.toList) : Int)] (fun k => Wc.heap.size ≤ k) (fun _ => False) rfl rfl rfl (fun _ hk => hk.elim) ?aF ?aO ?aB ?aS ?aL ?_; (case aF => intro j hj; have := hK1.size; omega); (case aO => exact R_kept hO hK1); (case aB => exact hB1); (case aS => exact hB1.size); (case aL => omega); intro v1 w2 hO2 hB2 hg2 hat2) | fail)
          have hT2 := hT1.over (R_kept hO hK1) hg2
          have hsz2 : Wc.heap.size ≤ w2.heap.size := Nat.le_trans hWr (Nat.le_trans hK1.size hg2.size)
          have hV2 := Kd.R_grown (R_kept hV0 hK1) hg2 (fun j hj e => by have := hO.1 j e.symm; omega)
          go_roundw
          case rel => exact ⟨k + 1, hkl, by simp; done, by rw [hstep]; exact hO2, by rw [hstep2]; exact hT2, hB2, hsz2, hV2⟩
          case measure => simp [intOf]; omega
        · have hkk : k = l1.length := by omega
          subst hkk
          rw [List.take_length] at hO hTr
          go_wp2_with fail
          rw [h2] at hO
          have hf1 := refFold_forms o (refFold o [] l0) l1
          rw [hf0, h2] at hf1
          simp only at hf1
          have hlen2 : (refFold o (refFold o [] l0) l1).length = ks2.length := by rw [← hf1, forms_len]
          obtain ⟨⟨A2, c2, hrow2, hR2⟩, _, _⟩ := hTr
          rw [hlen2] at hrow2
          have c6 : wr.drew.cell? ⟨g, 6, none⟩ = some (.slice A2 ks2.length c2) := (blk_cell (w := wr.drew) hrow2 6).trans rfl
          refine start_ (n := 10) (S := fun w' => w'.cell? ⟨g, 6, none⟩ = some (.slice A2 ks2.length c2)) (ds := []) #[false, false, false, false, false, false, false, false, false, false] (by kernel_rfl) rfl rfl c6 (fun hHeld => ?_)
          refine pure_ (i := 0) (N := some 47) (v := ?_) (a' := ?_) #[true, false, false, false, false, false, false, false, false, false] rfl rfl (by kernel_rfl) (fun _ _ _ h => h) (Or.inl ⟨by rfl, ?_⟩) ?_ ?_
          rotate_left
          · intro w'
            go_simp
            with_reducible rfl
          rotate_left
          · simp only [Act.put, List.setIfInBounds_toArray, List.set_cons_zero, List.set_cons_succ, i64_w, i32_w]
            rfl
          refine pure_ (i := 1) (N := some 48) (v := ?_) (a' := ?_) #[true, true, false, false, false, false, false, false, false, false] rfl rfl (by kernel_rfl) (fun _ _ _ h => h) (Or.inl ⟨by rfl, ?_⟩) ?_ ?_
          rotate_left
          · intro w'
            go_simp
            with_reducible rfl
          rotate_left
          · simp only [Act.put, List.setIfInBounds_toArray, List.set_cons_zero, List.set_cons_succ, i64_w, i32_w]
            rfl
          refine pure_ (i := 2) (N := some 49) (v := ?_) (a' := ?_) #[true, true, true, false, false, false, false, false, false, false] rfl rfl (by kernel_rfl) (fun _ _ _ h => h) (Or.inl ⟨by rfl, ?_⟩) ?_ ?_
          rotate_left
          · intro w'
            go_simp
            with_reducible rfl
          rotate_left
          · simp only [Act.put, List.setIfInBounds_toArray, List.set_cons_zero, List.set_cons_succ, i64_w, i32_w]
            rfl
          refine pure_ (i := 3) (N := some 50) (v := ?_) (a' := ?_) #[true, true, true, true, false, false, false, false, false, false] rfl rfl (by kernel_rfl) (fun _ _ _ h => h) (Or.inl ⟨by rfl, ?_⟩) ?_ ?_
          rotate_left
          · intro w'
            go_simp
            with_reducible rfl
          rotate_left
          · simp only [Act.put, List.setIfInBounds_toArray, List.set_cons_zero, List.set_cons_succ, i64_w, i32_w]
            rfl
          refine pure_ (i := 4) (N := some 51) (v := ?_) (a' := ?_) #[true, true, true, true, true, false, false, false, false, false] rfl rfl (by kernel_rfl) (fun _ _ _ h => h) (Or.inl ⟨by rfl, ?_⟩) ?_ ?_
          rotate_left
          · intro w'
            go_simp
            with_reducible rfl
          rotate_left
          · simp only [Act.put, List.setIfInBounds_toArray, List.set_cons_zero, List.set_cons_succ, i64_w, i32_w]
            rfl
          refine take_ (i := 5) (N := some 52) (v := ?_) (a' := ?_) #[true, true, true, true, true, true, false, false, false, false] rfl rfl (by kernel_rfl) (fun _ _ _ h => h) (Or.inl ⟨by rfl, ?_⟩) hHeld ?_ ?_
          rotate_left
          · rintro w' s0
            go_simp
            with_reducible rfl
          rotate_left
          · simp only [Act.put, List.setIfInBounds_toArray, List.set_cons_zero, List.set_cons_succ, i64_w, i32_w]
            rfl
          refine pure_ (i := 6) (N := some 53) (v := ?_) (a' := ?_) #[true, true, true, true, true, true, true, false, false, false] rfl rfl (by kernel_rfl) (fun _ _ _ h => h) (Or.inl ⟨by rfl, ?_⟩) ?_ ?_
          rotate_left
          · intro w'
            go_simp
            with_reducible rfl
          rotate_left
          · simp only [Act.put, List.setIfInBounds_toArray, List.set_cons_zero, List.set_cons_succ, i64_w, i32_w]
            rfl
          refine pure_ (i := 7) (N := some 6) (v := ?_) (a' := ?_) #[true, true, true, true, true, true, true, true, false, false] rfl rfl (by kernel_rfl) (fun _ _ _ h => h) (Or.inl ⟨by rfl, ?_⟩) ?_ ?_
          rotate_left
          · intro w'
            go_simp
            with_reducible rfl
          rotate_left
          · simp only [Act.put, List.setIfInBounds_toArray, List.set_cons_zero, List.set_cons_succ, i64_w, i32_w]
            rfl
          refine pure_ (i := 8) (N := some 7) (v := ?_) (a' := ?_) #[true, true, true, true, true, true, true, true, true, false] rfl rfl (by kernel_rfl) (fun _ _ _ h => h) (Or.inl ⟨by rfl, ?_⟩) ?_ ?_
          rotate_left
          · intro w'
            go_simp
            with_reducible rfl
          rotate_left
          · simp only [Act.put, List.setIfInBounds_toArray, List.set_cons_zero, List.set_cons_succ, i64_w, i32_w]
            rfl
          refine pure_ (i := 9) (N := some 8) (v := ?_) (a' := ?_) #[true, true, true, true, true, true, true, true, true, true] rfl rfl (by kernel_rfl) (fun _ _ _ h => h) (Or.inl ⟨by rfl, ?_⟩) ?_ ?_
          rotate_left
          · intro w'
            go_simp
            with_reducible rfl
          rotate_left
          · simp only [Act.put, List.setIfInBounds_toArray, List.set_cons_zero, List.set_cons_succ, i64_w, i32_w]
            rfl
          refine done_ (by kernel_rfl) ?_
          go_wp2_with fail
          go_ret3
          refine ⟨v0, u11, rfl, ?_, ?_, below_drew hBr⟩
          · exact Kd.R_mono (Kd.R_drew hV0) (fun k hk e => by have := hO.1 k e.symm; omega)
          · exact Kd.R_mono (Kd.R_drew hO) (fun k hk e => by have := hV0.1 k e.symm; omega)
def redlineref04_Classes.f (l0 : List ByteArray) (l1 : List ByteArray) (a2_0 : Bool) (a2_1 : Bool) (a2_2 : Bool) (a2_3 : Bool) (a2_4 : Bool) (a2_5 : Bool) : Option ((List Int) × (List Int) × (Int)) := intern_Classes.f l0 l1 a2_0 a2_1 a2_2 a2_3 a2_4 a2_5
theorem redlineref04_Classes.calls (A0 : Option Addr) (c0 : Nat) (l0 : List ByteArray) (A1 : Option Addr) (c1 : Nat) (l1 : List ByteArray) (a2_0 : Bool) (a2_1 : Bool) (a2_2 : Bool) (a2_3 : Bool) (a2_4 : Bool) (a2_5 : Bool) (r1 : List Int) (r2 : List Int) (r3 : Int) (w : World) (hr0 : Kd.C Kd.string w A0 l0.length l0) (_ : l0.length ≤ c0) (hr1 : Kd.C Kd.string w A1 l1.length l1) (_ : l1.length ≤ c1) (h : redlineref04_Classes.f l0 l1 a2_0 a2_1 a2_2 a2_3 a2_4 a2_5 = some (r1, r2, r3)) :
    Calls Tryd.prog 24 #[.slice A0 l0.length c0, .slice A1 l1.length c1, .agg #[.bool a2_0, .bool a2_1, .bool a2_2, .bool a2_3, .bool a2_4, .bool a2_5]] w fun e w' => ∃ v0_ v1_ : Value, e = .returned (.tuple #[v0_, v1_, .int .i64 r3]) ∧ Kd.R (Kd.int .i64) 3 w' w.heap.size (fun k_ => some k_ ≠ (v1_ : Value).ownBlock) v0_ r1 ∧ Kd.R (Kd.int .i64) 3 w' w.heap.size (fun k_ => some k_ ≠ (v0_ : Value).ownBlock) v1_ r2 ∧ Below w.heap.size w w' := by
  unfold redlineref04_Classes.f intern_Classes.f at h
  split at h
  · rename_i hc
    have e := Option.some.inj h
    simp only [clsAll, Prod.mk.injEq] at e
    obtain ⟨rfl, rfl, rfl⟩ := e
    exact refClasses_any ⟨a2_0, a2_1, a2_2, a2_3, a2_4, a2_5⟩ l0 l1 A0 A1 c0 c1 w hr0 hr1 (small8_mem hc.1) (small8_mem hc.2.1) hc.2.2 _ _ rfl _ _ rfl
  · cases h
end Go.Proofs.YtfecihlkgejjmaaDoor
