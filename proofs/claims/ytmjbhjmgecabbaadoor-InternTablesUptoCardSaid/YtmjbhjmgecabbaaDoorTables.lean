/- The walk of the law InternTables: the program's table and the reference's go side by side, for lines of at most 2^23 bytes. -/
import Derived.Test.YtmjbhjmgecabbaaDoorLook
import Derived.Test.YtmjbhjmgecabbaaDoorRefClasses
namespace Go.Proofs.YtmjbhjmgecabbaaDoor
open Go.RowKit YtmjbhjmgecabbaaDoorW.PrintWords YtmjbhjmgecabbaaDoorW.PrintLast
set_option linter.unusedVariables false
set_option linter.unusedSimpArgs false

theorem cellI {w : World} {g : Nat} {o : Ign} (h : w.heap[g]? = some (.cells #[.bool o.space, .bool o.white, .bool o.blank, .bool o.case_, .bool o.tabs, .bool o.trail] 23 (0, 0))) :
    w.cell? ⟨g, 0, none⟩ = some (.bool o.space) ∧ w.cell? ⟨g, 1, none⟩ = some (.bool o.white) ∧ w.cell? ⟨g, 2, none⟩ = some (.bool o.blank) ∧ w.cell? ⟨g, 3, none⟩ = some (.bool o.case_) ∧ w.cell? ⟨g, 4, none⟩ = some (.bool o.tabs) ∧ w.cell? ⟨g, 5, none⟩ = some (.bool o.trail) :=
  ⟨(blk_cell h 0).trans rfl, (blk_cell h 1).trans rfl, (blk_cell h 2).trans rfl, (blk_cell h 3).trans rfl, (blk_cell h 4).trans rfl, (blk_cell h 5).trans rfl⟩
theorem rtbl_new {base : Nat} {o : Ign} {g : Nat} {w : World} (h : w.heap[g]? = some (.cells #[.bool o.space, .bool o.white, .bool o.blank, .bool o.case_, .bool o.tabs, .bool o.trail, .slice none 0 0] 33 (0, 0))) : RTbl base o g w [] :=
  ⟨⟨none, 0, h, Kd.R_nil _ _ _ _ _⟩, by simp, List.nodup_nil⟩
theorem Tbl.kept {o : Ign} {g b : Nat} {w w' : World} {ks : List (List UInt8)} (h : Tbl o g b w ks) (hk : KeptT w w') : Tbl o g b w' ks := by
  obtain ⟨es, clock, h1, h2⟩ := h.own
  exact ⟨hk.kept g _ h.row (fun cs fr e => by cases e) (fun cs fr e => by cases e), ⟨es, clock, hk.kept b _ h1 (fun cs fr e => by cases e) (fun cs fr e => by cases e), h2⟩, h.nodup⟩
theorem RTbl.map {base : Nat} {o : Ign} {g g2 b : Nat} {w w' : World} {ks : List (List UInt8)} {L : List ByteArray} (h : RTbl base o g2 w L) (ht : Tbl o g b w ks) (hg : w.grownBy w' (some b)) : RTbl base o g2 w' L := by
  obtain ⟨⟨A, c, hrow, hR⟩, hsm, hnd⟩ := h
  obtain ⟨es, clock, h1, h2⟩ := ht.own
  have hmv : ∀ k cells t fr, w.heap[k]? = some (Obj.cells cells t fr) → w'.heap[k]? = some (Obj.cells cells t fr) := fun k cells t fr hc => by
    have hne : some k ≠ some b := by
      intro e
      obtain rfl := Option.some.inj e
      have := hc.symm.trans h1
      cases this
    exact (hg.block k (Array.getElem?_eq_some_iff.1 hc).1 hne).trans hc
  refine ⟨⟨A, c, hmv _ _ _ _ hrow, ?_⟩, hsm, hnd⟩
  refine Kd.R_mono (Kd.R_move (Kd.R_bound hR) (fun k hk' => ?_)) (fun _ h' => h'.1)
  obtain ⟨_, _, hlt, q, hq, cells, hc⟩ := hk'
  rw [hc]
  exact hmv _ _ _ _ hc
def lookB (bs : List Bool) (k : Nat) : Bool := if k < bs.length then rdOf false bs (k : Int) else false
set_option maxHeartbeats 4000000 in
set_option maxRecDepth 100000 in
theorem internTables_any (l : List ByteArray) (bs : List Bool) (o : Ign) (A0 : Option Addr) (c0 : Nat) (A1 : Option Addr) (c1 : Nat) (w : World) (hr0 : Kd.C Kd.string w A0 l.length l) (hs0 : ∀ s ∈ l, s.size ≤ 8388608) (hr1 : Kd.C Kd.bool w A1 bs.length bs) (hb : bs.length ≤ 4194304) :
    Calls Tryd.prog 4 #[.slice A0 l.length c0, .slice A1 bs.length c1, .agg #[.bool o.space, .bool o.white, .bool o.blank, .bool o.case_, .bool o.tabs, .bool o.trail]] w fun e w' => e = .returned (.bool true) ∧ Below w.heap.size w w' := by
  go_enter Tryd.func4, Tryd.ntmps4
  by_cases hl : l.length ≤ 300
  · go_upto_region 3 with fail
    have htb := alloc_new w (.cells #[.bool o.space, .bool o.white, .bool o.blank, .bool o.case_, .bool o.tabs, .bool o.trail] 23)
    have hBd := below_alloc (Below.refl w.heap.size w) (.cells #[.bool o.space, .bool o.white, .bool o.blank, .bool o.case_, .bool o.tabs, .bool o.trail] 23)
    generalize w.alloc (.cells #[.bool o.space, .bool o.white, .bool o.blank, .bool o.case_, .bool o.tabs, .bool o.trail] 23) = Wd at htb hBd ⊢
    go_cut [7, 8] from 14 to 28 (fun v7 v8 wx => ∃ g b g2 : Nat, v7 = .pointer (some ⟨g, 0, none⟩) ∧ v8 = .pointer (some ⟨g2, 0, none⟩) ∧ w.heap.size ≤ b ∧ w.heap.size ≤ g2 ∧ Tbl o g b wx [] ∧ RTbl w.heap.size o g2 wx [] ∧ Below w.heap.size w wx)
    case first =>
      replace htb : Wd.drew.heap[w.heap.size]? = some (.cells #[.bool o.space, .bool o.white, .bool o.blank, .bool o.case_, .bool o.tabs, .bool o.trail] 23 (0, 0)) := htb
      replace hBd := below_drew hBd
      refine start_ (n := 7) (S := fun w' => w'.cell? ⟨w.heap.size, 0, none⟩ = some (.bool o.space) ∧ w'.cell? ⟨w.heap.size, 1, none⟩ = some (.bool o.white) ∧ w'.cell? ⟨w.heap.size, 2, none⟩ = some (.bool o.blank) ∧ w'.cell? ⟨w.heap.size, 3, none⟩ = some (.bool o.case_) ∧ w'.cell? ⟨w.heap.size, 4, none⟩ = some (.bool o.tabs) ∧ w'.cell? ⟨w.heap.size, 5, none⟩ = some (.bool o.trail)) (ds := []) #[false, false, false, false, false, false, false] (by kernel_rfl) rfl rfl (cellI htb) (fun hHeld => ?_)
      generalize Wd.drew = Wd at htb hBd hHeld ⊢
      refine take_ (i := 0) (N := some 17) (v := ?_) (a' := ?_) #[true, false, false, false, false, false, false] rfl rfl (by kernel_rfl) (fun _ _ _ h => h) (Or.inl ⟨by rfl, ?_⟩) hHeld ?_ ?_
      rotate_left
      · rintro w' ⟨s0, s1, s2, s3, s4, s5⟩
        go_simp
        with_reducible rfl
      rotate_left
      · simp only [Act.put, List.setIfInBounds_toArray, List.set_cons_zero, List.set_cons_succ, i64_w, i32_w]
        rfl
      refine take_ (i := 2) (N := some 19) (v := ?_) (a' := ?_) #[true, false, true, false, false, false, false] rfl rfl (by kernel_rfl) (fun _ _ _ h => h) (Or.inl ⟨by rfl, ?_⟩) hHeld ?_ ?_
      rotate_left
      · rintro w' ⟨s0, s1, s2, s3, s4, s5⟩
        go_simp
        with_reducible rfl
      rotate_left
      · simp only [Act.put, List.setIfInBounds_toArray, List.set_cons_zero, List.set_cons_succ, i64_w, i32_w]
        rfl
      refine pure_ (i := 3) (N := some 20) (v := ?_) (a' := ?_) #[true, false, true, true, false, false, false] rfl rfl (by kernel_rfl) (fun _ _ _ h => h) (Or.inl ⟨by rfl, ?_⟩) ?_ ?_
      rotate_left
      · intro w'
        go_simp
        with_reducible rfl
      rotate_left
      · simp only [Act.put, List.setIfInBounds_toArray, List.set_cons_zero, List.set_cons_succ, i64_w, i32_w]
        rfl
      refine two_ (i := 1) (j := 4) (Ni := some 18) (Nj := some 21) #[true, true, true, true, false, false, false] #[true, false, true, true, true, false, false] rfl rfl rfl rfl (by kernel_rfl) (by decide) (by decide) (fun K hK => ?_) (fun K hK => ?_)
      · refine goes_ Tryd.func10 (by kernel_rfl) rfl #[.agg #[.bool o.space, .bool o.white, .bool o.blank, .bool o.case_, .bool o.tabs, .bool o.trail]] (by rfl) rfl rfl (by (try simp only [List.map_toArray, List.map_cons, List.map_nil]); first | done | rfl) ?_
        refine (new_any o _).mono ?_
        rintro e w1 ⟨g, b, rfl, hgg, hgb, hT, hb1⟩
        refine ⟨_, rfl, ?_⟩
        have htb1 := (hb1.block w.heap.size (blk_lt htb)).trans htb
        have hB1 := hBd.trans (hb1.mono hBd.size)
        refine hK.out _ _ (cellI htb1) (fun hHeld => ?_)
        clear hK K
        refine norm_ (a' := ?_) ?_ ?_
        rotate_left
        · show Act.put _ (some 18) _ = _
          simp only [Act.put, List.setIfInBounds_toArray, List.set_cons_zero, List.set_cons_succ, i64_w, i32_w]
          rfl
        refine pure_ (i := 5) (N := some 7) (v := ?_) (a' := ?_) #[true, true, true, true, false, true, false] rfl rfl (by kernel_rfl) (fun _ _ _ h => h) (Or.inl ⟨by rfl, ?_⟩) ?_ ?_
        rotate_left
        · intro w'
          go_simp
          with_reducible rfl
        rotate_left
        · simp only [Act.put, List.setIfInBounds_toArray, List.set_cons_zero, List.set_cons_succ, i64_w, i32_w]
          rfl
        refine one_ (i := 4) (N := some 21) #[true, true, true, true, true, true, false] rfl rfl (by kernel_rfl) (by decide) (fun K hK => ?_)
        refine value_ (w1 := w1.alloc (.cells #[.bool o.space, .bool o.white, .bool o.blank, .bool o.case_, .bool o.tabs, .bool o.trail, .slice none 0 0] 33)) (v := .pointer (some ⟨w1.heap.size, 0, none⟩)) (by rfl) rfl (by first | (go_simp; done) | (go_simp; rfl)) ?_
        have hrow := alloc_new w1 (.cells #[.bool o.space, .bool o.white, .bool o.blank, .bool o.case_, .bool o.tabs, .bool o.trail, .slice none 0 0] 33)
        have hb2 := below_alloc (Below.refl w1.heap.size w1) (.cells #[.bool o.space, .bool o.white, .bool o.blank, .bool o.case_, .bool o.tabs, .bool o.trail, .slice none 0 0] 33)
        have htb2 := (hb2.block w.heap.size (blk_lt htb1)).trans htb1
        refine hK.out _ _ (cellI htb2) (fun hHeld => ?_)
        clear hK K
        refine norm_ (a' := ?_) ?_ ?_
        rotate_left
        · show Act.put _ (some 21) _ = _
          simp only [Act.put, List.setIfInBounds_toArray, List.set_cons_zero, List.set_cons_succ, i64_w, i32_w]
          rfl
        refine pure_ (i := 6) (N := some 8) (v := ?_) (a' := ?_) #[true, true, true, true, true, true, true] rfl rfl (by kernel_rfl) (fun _ _ _ h => h) (Or.inl ⟨by rfl, ?_⟩) ?_ ?_
        rotate_left
        · intro w'
          go_simp
          with_reducible rfl
        rotate_left
        · simp only [Act.put, List.setIfInBounds_toArray, List.set_cons_zero, List.set_cons_succ, i64_w, i32_w]
          rfl
        refine done_ (by kernel_rfl) ?_
        go_wp2_with fail
        go_meet
        exact ⟨g, b, _, rfl, rfl, Nat.le_trans hBd.size hgb, hB1.size, hT.grown hb2, rtbl_new hrow, hB1.trans (hb2.mono hB1.size)⟩
      · refine value_ (w1 := Wd.alloc (.cells #[.bool o.space, .bool o.white, .bool o.blank, .bool o.case_, .bool o.tabs, .bool o.trail, .slice none 0 0] 33)) (v := .pointer (some ⟨Wd.heap.size, 0, none⟩)) (by rfl) rfl (by first | (go_simp; done) | (go_simp; rfl)) ?_
        have hrow := alloc_new Wd (.cells #[.bool o.space, .bool o.white, .bool o.blank, .bool o.case_, .bool o.tabs, .bool o.trail, .slice none 0 0] 33)
        have hb2 := below_alloc (Below.refl Wd.heap.size Wd) (.cells #[.bool o.space, .bool o.white, .bool o.blank, .bool o.case_, .bool o.tabs, .bool o.trail, .slice none 0 0] 33)
        have htb2 := (hb2.block w.heap.size (blk_lt htb)).trans htb
        have hB2 := hBd.trans (hb2.mono hBd.size)
        refine hK.out _ _ (cellI htb2) (fun hHeld => ?_)
        clear hK K
        refine norm_ (a' := ?_) ?_ ?_
        rotate_left
        · show Act.put _ (some 21) _ = _
          simp only [Act.put, List.setIfInBounds_toArray, List.set_cons_zero, List.set_cons_succ, i64_w, i32_w]
          rfl
        refine one_ (i := 1) (N := some 18) #[true, true, true, true, true, false, false] rfl rfl (by kernel_rfl) (by decide) (fun K hK => ?_)
        refine goes_ Tryd.func10 (by kernel_rfl) rfl #[.agg #[.bool o.space, .bool o.white, .bool o.blank, .bool o.case_, .bool o.tabs, .bool o.trail]] (by rfl) rfl rfl (by (try simp only [List.map_toArray, List.map_cons, List.map_nil]); first | done | rfl) ?_
        refine (new_any o _).mono ?_
        rintro e w1 ⟨g, b, rfl, hgg, hgb, hT, hb1⟩
        refine ⟨_, rfl, ?_⟩
        have htb1 := (hb1.block w.heap.size (blk_lt htb2)).trans htb2
        have hB1 := hB2.trans (hb1.mono hB2.size)
        refine hK.out _ _ (cellI htb1) (fun hHeld => ?_)
        clear hK K
        refine norm_ (a' := ?_) ?_ ?_
        rotate_left
        · show Act.put _ (some 18) _ = _
          simp only [Act.put, List.setIfInBounds_toArray, List.set_cons_zero, List.set_cons_succ, i64_w, i32_w]
          rfl
        refine pure_ (i := 5) (N := some 7) (v := ?_) (a' := ?_) #[true, true, true, true, true, true, false] rfl rfl (by kernel_rfl) (fun _ _ _ h => h) (Or.inl ⟨by rfl, ?_⟩) ?_ ?_
        rotate_left
        · intro w'
          go_simp
          with_reducible rfl
        rotate_left
        · simp only [Act.put, List.setIfInBounds_toArray, List.set_cons_zero, List.set_cons_succ, i64_w, i32_w]
          rfl
        refine pure_ (i := 6) (N := some 8) (v := ?_) (a' := ?_) #[true, true, true, true, true, true, true] rfl rfl (by kernel_rfl) (fun _ _ _ h => h) (Or.inl ⟨by rfl, ?_⟩) ?_ ?_
        rotate_left
        · intro w'
          go_simp
          with_reducible rfl
        rotate_left
        · simp only [Act.put, List.setIfInBounds_toArray, List.set_cons_zero, List.set_cons_succ, i64_w, i32_w]
          rfl
        refine done_ (by kernel_rfl) ?_
        go_wp2_with fail
        go_meet
        exact ⟨g, b, _, rfl, rfl, Nat.le_trans hB2.size hgb, hBd.size, hT, (rtbl_new hrow).below hb1, hB1⟩
    case rest =>
      obtain ⟨g, b, g2, rfl, rfl, hgb, hg2, hT, hR, hB⟩ := hcut
      go_wp2_with (first | (go_at_call 11; refine (size_any o g b [] _ hT).mono ?_; rintro e w1 ⟨rfl, rfl⟩) | fail)
      go_loopg [9] l.length (fun kq v9 wr => ∃ k : Nat, kq + k = l.length ∧ v9 = .int .i64 k ∧ ∃ L : List ByteArray, L.length ≤ k ∧ Tbl o g b wr (forms o L) ∧ RTbl w.heap.size o g2 wr L ∧ Below w.heap.size w wr)
      case atStart => exact ⟨0, by omega, rfl, [], Nat.le_refl _, hT, hR, hB⟩
      case round =>
        clear hT hR hB
        obtain ⟨k, hk, rfl, L, hL, hT, hR, hB⟩ := hrel
        by_cases hkl : k < l.length
        · obtain ⟨ad, rfl, hcell0⟩ := Kd.at_string (Kd.C_below hr0 hB) (k : Int) (by omega) (by omega)
          have hcell : ∀ w', Below w.heap.size w w' → w'.cell? (ad.add k) = some (.string (rdOf ByteArray.empty l (k : Int))) := fun w' hb => by
            obtain ⟨ad', e, h⟩ := Kd.at_string (Kd.C_below hr0 hb) (k : Int) (by omega) (by omega)
            obtain rfl := Option.some.inj e
            simpa only [Int.toNat_natCast] using h
          clear hcell0
          have hs : (rdOf ByteArray.empty l (k : Int)).size ≤ 8388608 := by
            have h2 : rdOf ByteArray.empty l (k : Int) = l[k] := by simp [rdOf, hkl]
            rw [h2]
            exact hs0 _ (List.getElem_mem hkl)
          generalize rdOf ByteArray.empty l (k : Int) = s at hcell hs
          go_upto_region 9 with fail
          go_cut [44] (fun v wx => v = .bool (lookB bs k) ∧ wx = wr)
          case first =>
            by_cases hkb : k < bs.length
            · obtain ⟨bd, rfl, hbc⟩ := Kd.at_bool (Kd.C_below hr1 hB) (k : Int) (by omega) (by omega)
              simp only [Int.toNat_natCast] at hbc
              have hlb : lookB bs k = rdOf false bs (k : Int) := by unfold lookB; rw [if_pos hkb]
              generalize rdOf false bs (k : Int) = x at hbc hlb
              go_wp2_with fail
              go_meet
              exact ⟨congrArg Value.bool hlb.symm, rfl⟩
            · have hlb : lookB bs k = false := by unfold lookB; rw [if_neg hkb]
              go_wp2_with fail
              go_meet
              exact ⟨congrArg Value.bool hlb.symm, rfl⟩
          case rest =>
            obtain ⟨rfl, rfl⟩ := hcut
            go_upto_if 44 with fail
            go_cut [10, 11, 12, 13] (fun v10 v11 v12 v13 wx => ∃ L : List ByteArray, L.length ≤ k + 1 ∧ Tbl o g b wx (forms o L) ∧ RTbl w.heap.size o g2 wx L ∧ Below w.heap.size w wx)
            case first =>
              cases lookB bs k with
              | true =>
                have c1 := fun W hT => look_any s o g b (forms o L) W hT hs
                have c2 := fun W hR => refLook_any w.heap.size s o g2 L W hR hs (by omega)
                generalize (if canonF o s.data.toList ∈ forms o L then (clsN (forms o L) (canonF o s.data.toList) : Int) else 0) = rI at c1 c2
                generalize (forms o L).contains (canonF o s.data.toList) = rB at c1 c2
                have hc := hcell _ hB
                go_wp2_with (first | (go_at_call 12; refine (c1 _ hT).mono ?_; rintro e w1 ⟨rfl, hb1⟩; have hT1 := hT.grown hb1; have hR1 := hR.below hb1; have hB1 := hB.trans (hb1.mono hB.size); have hc1 := hcell _ hB1) | (go_at_call 13; refine (c2 _ hR1).mono ?_; rintro e w2 ⟨rfl, hb2⟩; have hT2 := hT1.grown hb2; have hR2 := hR1.below hb2; have hB2 := hB1.trans (hb2.mono hB1.size)) | fail)
                go_meet
                exact ⟨L, by omega, hT2, hR2, hB2⟩
              | false =>
                have hnk : (forms o L).length ≤ 4194304 := by rw [forms_len]; omega
                have hk0 : (0 : Int) ≤ (k : Int) := by omega
                have hk1 : (k : Int) < (l.length : Int) := by omega
                have hlen := refK_len o L s
                have hfk := refK_forms o L s
                have c1 := fun W hT => class_any s o g b (forms o L) W hT hs hnk
                have c2 := fun W hR hB hS => refClass_any w.heap.size w s o g2 L W hR hs (by omega) hB hS hg2
                rw [← hfk] at c1
                generalize clsN (forms o L) (canonF o s.data.toList) = n at c1 c2
                replace hT : Tbl o g b wc.drew (forms o L) := ⟨hT.row, hT.own, hT.nodup⟩
                replace hR : RTbl w.heap.size o g2 wc.drew L := hR.below (below_drew (Below.refl _ _))
                replace hB := below_drew hB
                have hc := hcell _ hB
                go_upto_region 14 with fail
                refine start_ (n := 13) (S := fun w' => w'.cell? (ad.add k) = some (.string s)) (ds := []) #[false, false, false, false, false, false, false, false, false, false, false, false, false] (by kernel_rfl) rfl rfl hc (fun hHeld => ?_)
                generalize wc.drew = W at hT hR hB hc hHeld ⊢
                refine pure_ (i := 0) (N := some 71) (v := ?_) (a' := ?_) #[true, false, false, false, false, false, false, false, false, false, false, false, false] rfl rfl (by kernel_rfl) (fun _ _ _ h => h) (Or.inl ⟨by rfl, ?_⟩) ?_ ?_
                rotate_left
                · intro w'
                  go_simp
                  with_reducible rfl
                rotate_left
                · simp only [Act.put, List.setIfInBounds_toArray, List.set_cons_zero, List.set_cons_succ, i64_w, i32_w]
                  rfl
                refine pure_ (i := 1) (N := some 72) (v := ?_) (a' := ?_) #[true, true, false, false, false, false, false, false, false, false, false, false, false] rfl rfl (by kernel_rfl) (fun _ _ _ h => h) (Or.inl ⟨by rfl, ?_⟩) ?_ ?_
                rotate_left
                · intro w'
                  go_simp
                  with_reducible rfl
                rotate_left
                · simp only [Act.put, List.setIfInBounds_toArray, List.set_cons_zero, List.set_cons_succ, i64_w, i32_w]
                  rfl
                refine pure_ (i := 2) (N := some 73) (v := ?_) (a' := ?_) #[true, true, true, false, false, false, false, false, false, false, false, false, false] rfl rfl (by kernel_rfl) (fun _ _ _ h => h) (Or.inl ⟨by rfl, ?_⟩) ?_ ?_
                rotate_left
                · intro w'
                  go_simp
                  with_reducible rfl
                rotate_left
                · simp only [Act.put, List.setIfInBounds_toArray, List.set_cons_zero, List.set_cons_succ, i64_w, i32_w]
                  rfl
                refine pure_ (i := 3) (N := some 74) (v := ?_) (a' := ?_) #[true, true, true, true, false, false, false, false, false, false, false, false, false] rfl rfl (by kernel_rfl) (fun _ _ _ h => h) (Or.inl ⟨by rfl, ?_⟩) ?_ ?_
                rotate_left
                · intro w'
                  go_simp
                  with_reducible rfl
                rotate_left
                · simp only [Act.put, List.setIfInBounds_toArray, List.set_cons_zero, List.set_cons_succ, i64_w, i32_w]
                  rfl
                refine take_ (i := 4) (N := some 75) (v := ?_) (a' := ?_) #[true, true, true, true, true, false, false, false, false, false, false, false, false] rfl rfl (by kernel_rfl) (fun _ _ _ h => h) (Or.inl ⟨by rfl, ?_⟩) hHeld ?_ ?_
                rotate_left
                · rintro w' s0
                  go_simp
                  with_reducible rfl
                rotate_left
                · simp only [Act.put, List.setIfInBounds_toArray, List.set_cons_zero, List.set_cons_succ, i64_w, i32_w]
                  rfl
                refine pure_ (i := 6) (N := some 77) (v := ?_) (a' := ?_) #[true, true, true, true, true, false, true, false, false, false, false, false, false] rfl rfl (by kernel_rfl) (fun _ _ _ h => h) (Or.inl ⟨by rfl, ?_⟩) ?_ ?_
                rotate_left
                · intro w'
                  go_simp
                  with_reducible rfl
                rotate_left
                · simp only [Act.put, List.setIfInBounds_toArray, List.set_cons_zero, List.set_cons_succ, i64_w, i32_w]
                  rfl
                refine pure_ (i := 7) (N := some 78) (v := ?_) (a' := ?_) #[true, true, true, true, true, false, true, true, false, false, false, false, false] rfl rfl (by kernel_rfl) (fun _ _ _ h => h) (Or.inl ⟨by rfl, ?_⟩) ?_ ?_
                rotate_left
                · intro w'
                  go_simp
                  with_reducible rfl
                rotate_left
                · simp only [Act.put, List.setIfInBounds_toArray, List.set_cons_zero, List.set_cons_succ, i64_w, i32_w]
                  rfl
                refine pure_ (i := 8) (N := some 79) (v := ?_) (a' := ?_) #[true, true, true, true, true, false, true, true, true, false, false, false, false] rfl rfl (by kernel_rfl) (fun _ _ _ h => h) (Or.inl ⟨by rfl, ?_⟩) ?_ ?_
                rotate_left
                · intro w'
                  go_simp
                  with_reducible rfl
                rotate_left
                · simp only [Act.put, List.setIfInBounds_toArray, List.set_cons_zero, List.set_cons_succ, i64_w, i32_w]
                  rfl
                refine pure_ (i := 9) (N := some 80) (v := ?_) (a' := ?_) #[true, true, true, true, true, false, true, true, true, true, false, false, false] rfl rfl (by kernel_rfl) (fun _ _ _ h => h) (Or.inl ⟨by rfl, ?_⟩) ?_ ?_
                rotate_left
                · intro w'
                  go_simp
                  with_reducible rfl
                rotate_left
                · simp only [Act.put, List.setIfInBounds_toArray, List.set_cons_zero, List.set_cons_succ, i64_w, i32_w]
                  rfl
                refine take_ (i := 10) (N := some 81) (v := ?_) (a' := ?_) #[true, true, true, true, true, false, true, true, true, true, true, false, false] rfl rfl (by kernel_rfl) (fun _ _ _ h => h) (Or.inl ⟨by rfl, ?_⟩) hHeld ?_ ?_
                rotate_left
                · rintro w' s0
                  go_simp
                  with_reducible rfl
                rotate_left
                · simp only [Act.put, List.setIfInBounds_toArray, List.set_cons_zero, List.set_cons_succ, i64_w, i32_w]
                  rfl
                refine one_ (i := 5) (N := some 76) #[true, true, true, true, true, true, true, true, true, true, true, false, false] rfl rfl (by kernel_rfl) (by decide) (fun K hK => ?_)
                refine goes_ Tryd.func14 (by kernel_rfl) rfl #[.pointer (some ⟨g, 0, none⟩), .string s] (by rfl) rfl rfl (by (try simp only [List.map_toArray, List.map_cons, List.map_nil]); first | done | rfl) ?_
                refine (c1 _ hT).mono ?_
                rintro e w1 ⟨rfl, hT1, hG1⟩
                refine ⟨_, rfl, ?_⟩
                have hR1 := hR.map hT hG1
                have hB1 := hB.grown hG1 hB.size (fun j hj => by cases hj; exact hgb)
                have hc1 := hcell _ hB1
                refine hK.out _ _ hc1 (fun hHeld => ?_)
                clear hK K
                refine norm_ (a' := ?_) ?_ ?_
                rotate_left
                · show Act.put _ (some 76) _ = _
                  simp only [Act.put, List.setIfInBounds_toArray, List.set_cons_zero, List.set_cons_succ, i64_w, i32_w]
                  rfl
                refine one_ (i := 11) (N := some 82) #[true, true, true, true, true, true, true, true, true, true, true, true, false] rfl rfl (by kernel_rfl) (by decide) (fun K hK => ?_)
                refine goes_ Tryd.func15 (by kernel_rfl) rfl #[.pointer (some ⟨g2, 0, none⟩), .string s] (by rfl) rfl rfl (by (try simp only [List.map_toArray, List.map_cons, List.map_nil]); first | done | rfl) ?_
                refine (c2 _ hR1 hB1 hB1.size).mono ?_
                rintro e w2 ⟨rfl, hR2, hB2, hK2⟩
                refine ⟨_, rfl, ?_⟩
                have hT2 := hT1.kept hK2
                have hc2 := hcell _ hB2
                refine hK.out _ _ hc2 (fun hHeld => ?_)
                clear hK K
                refine norm_ (a' := ?_) ?_ ?_
                rotate_left
                · show Act.put _ (some 82) _ = _
                  simp only [Act.put, List.setIfInBounds_toArray, List.set_cons_zero, List.set_cons_succ, i64_w, i32_w]
                  rfl
                refine pure_ (i := 12) (N := some 83) (v := ?_) (a' := ?_) #[true, true, true, true, true, true, true, true, true, true, true, true, true] rfl rfl (by kernel_rfl) (fun _ _ _ h => h) (Or.inl ⟨by rfl, ?_⟩) ?_ ?_
                rotate_left
                · intro w'
                  go_simp
                  with_reducible rfl
                rotate_left
                · simp only [Act.put, List.setIfInBounds_toArray, List.set_cons_zero, List.set_cons_succ, i64_w, i32_w]
                  rfl
                refine done_ (by kernel_rfl) ?_
                go_wp2_with fail
                go_meet
                exact ⟨refK o L s, by omega, hT2, hR2, hB2⟩
            case rest =>
              clear hT hR hB hL
              obtain ⟨L, hL, hT, hR, hB⟩ := hcut
              have hsize := fun W hT => size_any o g b (forms o L) W hT
              rw [forms_len] at hsize
              replace hT : Tbl o g b wc.drew (forms o L) := ⟨hT.row, hT.own, hT.nodup⟩
              replace hR : RTbl w.heap.size o g2 wc.drew L := hR.below (below_drew (Below.refl _ _))
              replace hB := below_drew hB
              go_upto_region 16 with fail
              obtain ⟨A, c, hrow, hRR⟩ := hR.row
              obtain ⟨d0, d1, d2, d3, d4, d5, d6⟩ := cellR hrow rfl
              refine start_ (n := 8) (S := fun w' => w'.cell? ⟨g2, 6, none⟩ = some (.slice A L.length c)) (ds := []) #[false, false, false, false, false, false, false, false] (by kernel_rfl) rfl rfl d6 (fun hHeld => ?_)
              generalize wc.drew = W at hT hR hB hRR hrow d6 hHeld ⊢
              refine pure_ (i := 0) (N := some 84) (v := ?_) (a' := ?_) #[true, false, false, false, false, false, false, false] rfl rfl (by kernel_rfl) (fun _ _ _ h => h) (Or.inl ⟨by rfl, ?_⟩) ?_ ?_
              rotate_left
              · intro w'
                go_simp
                with_reducible rfl
              rotate_left
              · simp only [Act.put, List.setIfInBounds_toArray, List.set_cons_zero, List.set_cons_succ, i64_w, i32_w]
                rfl
              refine pure_ (i := 2) (N := some 86) (v := ?_) (a' := ?_) #[true, false, true, false, false, false, false, false] rfl rfl (by kernel_rfl) (fun _ _ _ h => h) (Or.inl ⟨by rfl, ?_⟩) ?_ ?_
              rotate_left
              · intro w'
                go_simp
                with_reducible rfl
              rotate_left
              · simp only [Act.put, List.setIfInBounds_toArray, List.set_cons_zero, List.set_cons_succ, i64_w, i32_w]
                rfl
              refine pure_ (i := 3) (N := some 87) (v := ?_) (a' := ?_) #[true, false, true, true, false, false, false, false] rfl rfl (by kernel_rfl) (fun _ _ _ h => h) (Or.inl ⟨by rfl, ?_⟩) ?_ ?_
              rotate_left
              · intro w'
                go_simp
                with_reducible rfl
              rotate_left
              · simp only [Act.put, List.setIfInBounds_toArray, List.set_cons_zero, List.set_cons_succ, i64_w, i32_w]
                rfl
              refine pure_ (i := 4) (N := some 88) (v := ?_) (a' := ?_) #[true, false, true, true, true, false, false, false] rfl rfl (by kernel_rfl) (fun _ _ _ h => h) (Or.inl ⟨by rfl, ?_⟩) ?_ ?_
              rotate_left
              · intro w'
                go_simp
                with_reducible rfl
              rotate_left
              · simp only [Act.put, List.setIfInBounds_toArray, List.set_cons_zero, List.set_cons_succ, i64_w, i32_w]
                rfl
              refine take_ (i := 5) (N := some 89) (v := ?_) (a' := ?_) #[true, false, true, true, true, true, false, false] rfl rfl (by kernel_rfl) (fun _ _ _ h => h) (Or.inl ⟨by rfl, ?_⟩) hHeld ?_ ?_
              rotate_left
              · rintro w' s0
                go_simp
                with_reducible rfl
              rotate_left
              · simp only [Act.put, List.setIfInBounds_toArray, List.set_cons_zero, List.set_cons_succ, i64_w, i32_w]
                rfl
              refine pure_ (i := 6) (N := some 90) (v := ?_) (a' := ?_) #[true, false, true, true, true, true, true, false] rfl rfl (by kernel_rfl) (fun _ _ _ h => h) (Or.inl ⟨by rfl, ?_⟩) ?_ ?_
              rotate_left
              · intro w'
                go_simp
                with_reducible rfl
              rotate_left
              · simp only [Act.put, List.setIfInBounds_toArray, List.set_cons_zero, List.set_cons_succ, i64_w, i32_w]
                rfl
              refine one_ (i := 1) (N := some 85) #[true, true, true, true, true, true, true, false] rfl rfl (by kernel_rfl) (by decide) (fun K hK => ?_)
              refine goes_ Tryd.func11 (by kernel_rfl) rfl #[.pointer (some ⟨g, 0, none⟩)] (by rfl) rfl rfl (by (try simp only [List.map_toArray, List.map_cons, List.map_nil]); first | done | rfl) ?_
              refine (hsize _ hT).mono ?_
              rintro e w1 ⟨rfl, rfl⟩
              refine ⟨_, rfl, ?_⟩
              refine hK.out _ _ d6 (fun hHeld => ?_)
              clear hK K
              refine norm_ (a' := ?_) ?_ ?_
              rotate_left
              · show Act.put _ (some 85) _ = _
                simp only [Act.put, List.setIfInBounds_toArray, List.set_cons_zero, List.set_cons_succ, i64_w, i32_w]
                rfl
              refine pure_ (i := 7) (N := some 91) (v := ?_) (a' := ?_) #[true, true, true, true, true, true, true, true] rfl rfl (by kernel_rfl) (fun _ _ _ h => h) (Or.inl ⟨by rfl, ?_⟩) ?_ ?_
              rotate_left
              · intro w'
                go_simp
                with_reducible rfl
              rotate_left
              · simp only [Act.put, List.setIfInBounds_toArray, List.set_cons_zero, List.set_cons_succ, i64_w, i32_w]
                rfl
              refine done_ (by kernel_rfl) ?_
              go_wp2_with fail
              go_roundg (l.length - (k + 1))
              case measure => omega
              case rel => exact ⟨k + 1, by omega, by first | rfl | (simp; done), L, hL, hT, hR, hB⟩
        · obtain rfl : k = l.length := by omega
          go_wp2_with fail
          go_ret
          exact ⟨rfl, hB⟩
  · go_wp2_with fail
    go_ret
    exact ⟨rfl, below_alloc (Below.refl _ _) _⟩
theorem internTables_walk (l : List ByteArray) (bs : List Bool) (o : Ign) (A0 : Option Addr) (c0 : Nat) (A1 : Option Addr) (c1 : Nat) (w : World) (hr0 : Kd.C Kd.string w A0 l.length l) (lc0 : l.length ≤ c0) (hs0 : small8 l = true) (hr1 : Kd.C Kd.bool w A1 bs.length bs) (hb : bs.length ≤ 4194304) :
    Calls Tryd.prog 4 #[.slice A0 l.length c0, .slice A1 bs.length c1, .agg #[.bool o.space, .bool o.white, .bool o.blank, .bool o.case_, .bool o.tabs, .bool o.trail]] w fun e w' => e = .returned (.bool true) ∧ Below w.heap.size w w' :=
  internTables_any l bs o A0 c0 A1 c1 w hr0 (small8_mem hs0) hr1 hb
end Go.Proofs.YtmjbhjmgecabbaaDoor
