/- intern.Classes: the lines of two texts get their classes' numbers, for texts of together at most 2^21 lines of at most 2^23 bytes each. -/
import Derived.Test.YtmjbhjmgecabbaaDoorTbl
import Derived.Deep.RegionHeld3
import Derived.Laws.EntriesVeiled
namespace Go.Proofs.YtmjbhjmgecabbaaDoor
open Go.RowKit YtmjbhjmgecabbaaDoorW.PrintWords YtmjbhjmgecabbaaDoorW.PrintLast
open Go.Maps
set_option linter.unusedVariables false
set_option linter.unusedSimpArgs false

def clsStep (o : Ign) (p : List Int × List (List UInt8)) (s : ByteArray) : List Int × List (List UInt8) := (p.1 ++ [(clsN p.2 (canonF o s.data.toList) : Int)], clsK p.2 (canonF o s.data.toList))
def clsFold (o : Ign) (ks : List (List UInt8)) (l : List ByteArray) : List Int × List (List UInt8) := l.foldl (clsStep o) ([], ks)
theorem clsFold_snoc (o : Ign) (ks : List (List UInt8)) (l : List ByteArray) (s : ByteArray) : clsFold o ks (l ++ [s]) = clsStep o (clsFold o ks l) s := by unfold clsFold; rw [List.foldl_append]; rfl
theorem clsFold_len (o : Ign) (ks : List (List UInt8)) (l : List ByteArray) : (clsFold o ks l).1.length = l.length ∧ (clsFold o ks l).2.length ≤ ks.length + l.length := by
  induction l using snoc_rec with
  | nil => exact ⟨rfl, Nat.le_refl _⟩
  | snoc l s ih =>
    rw [clsFold_snoc]
    have := clsK_len (clsFold o ks l).2 (canonF o s.data.toList)
    simp only [clsStep, List.length_append, List.length_cons, List.length_nil]
    omega
theorem info_int : (Tryd.prog.info? 3).map (fun i => (i.zero, i.size, i.bytes)) = some (some (.int .i64 0), 1, 8) := by kernel_rfl
theorem take_snoc (l : List ByteArray) (k : Nat) (h : k < l.length) : l.take (k + 1) = l.take k ++ [rdOf ByteArray.empty l (k : Int)] := by
  have h2 : rdOf ByteArray.empty l (k : Int) = l[k] := by simp [rdOf, h]
  rw [h2, List.take_succ_eq_append_getElem h]
theorem grown_over {w W w2 : World} {b : Nat} {row : Option Nat} (h : w.grownBy W (some b)) (h2 : W.grownBy w2 row) (hr : ∀ k, row = some k → w.heap.size ≤ k) : w.grownBy w2 (some b) :=
  ⟨h2.os.trans h.os, h2.tape.trans h.tape, h2.output.trans h.output, Nat.le_trans h.size h2.size, fun i hi hne => (h2.block i (Nat.lt_of_lt_of_le hi h.size) (fun e => by have := hr i e.symm; omega)).trans (h.block i hi hne)⟩
theorem Tbl.over {o : Ign} {g b : Nat} {w w' : World} {ks : List (List UInt8)} {row : Option Nat} (h : Tbl o g b w ks) (hg : w.grownBy w' row) (h1 : row ≠ some g) (h2 : row ≠ some b) : Tbl o g b w' ks :=
  ⟨(hg.block g h.lt.1 h1.symm).trans h.row, ownsMap_block h.own (hg.block b h.lt.2 h2.symm), h.nodup⟩
set_option maxHeartbeats 2000000 in
set_option maxRecDepth 100000 in
theorem numbers_any (w0 : World) (o : Ign) (g b tb : Nat) (ks : List (List UInt8)) (l : List ByteArray) (A : Option Addr) (c : Nat) (w : World) (hB : Below w0.heap.size w0 w) (hgb : w0.heap.size ≤ b) (hT : Tbl o g b w ks)
    (htb : w.heap[tb]? = some (.cells #[.pointer (some ⟨g, 0, none⟩)] 29 (0, 0))) (hr : Kd.C Kd.string w0 A l.length l) (hs : ∀ s ∈ l, s.size ≤ 8388608) (hn : ks.length + l.length ≤ 4194304) :
    Calls Tryd.prog 69 #[.slice A l.length c, .pointer (some ⟨tb, 0, none⟩)] w fun e w' => ∃ v, e = .returned v ∧ Kd.R (Kd.int .i64) 3 w' w0.heap.size (fun k => w.heap.size ≤ k) v (clsFold o ks l).1 ∧ Tbl o g b w' (clsFold o ks l).2 ∧ w.grownBy w' (some b) := by
  have hgl := hT.lt
  go_enter Tryd.func69, Tryd.ntmps69
  go_wp2_with fail
  go_loopw [4, 9] (fun v i wr => ∃ k : Nat, k ≤ l.length ∧ i = .int .i64 k ∧ Kd.R (Kd.int .i64) 3 wr w0.heap.size (fun k => w.heap.size ≤ k) v (clsFold o ks (l.take k)).1 ∧ Tbl o g b wr (clsFold o ks (l.take k)).2 ∧ w.grownBy wr (some b)) (fun _ i _ => l.length - (intOf i).toNat)
  case atStart => exact ⟨0, Nat.zero_le _, rfl, Kd.R_nil _ _ _ _ _, hT, grown_of_below (Below.refl _ _) _⟩
  case round =>
    obtain ⟨k, hk, rfl, hO, hTr, hG⟩ := hrel
    by_cases hkl : k < l.length
    · have hBr : Below w0.heap.size w0 wr := hB.grown hG hB.size (fun j hj => by cases hj; exact hgb)
      obtain ⟨ad, rfl, hcell⟩ := Kd.at_string (Kd.C_below hr hBr) (k : Int) (by omega) (by omega)
      simp only [Int.toNat_natCast] at hcell
      have hlen := clsFold_len o ks (l.take k)
      have htk : (l.take k).length = k := by simp; omega
      have hne : tb ≠ b := by
        rintro rfl
        obtain ⟨es, clock, h1, _⟩ := hT.own
        have := htb.symm.trans h1
        cases this
      have htl := blk_lt htb
      have hct : wr.cell? ⟨tb, 0, none⟩ = some (.pointer (some ⟨g, 0, none⟩)) := (blk_cell ((hG.block tb htl (by simpa using hne)).trans htb) 0).trans rfl
      have hsk : (rdOf ByteArray.empty l (k : Int)).size ≤ 8388608 := by
        have h2 : rdOf ByteArray.empty l (k : Int) = l[k] := by simp [rdOf, hkl]
        rw [h2]
        exact hs _ (List.getElem_mem hkl)
      have hstep : clsFold o ks (l.take (k + 1)) = clsStep o (clsFold o ks (l.take k)) (rdOf ByteArray.empty l (k : Int)) := by rw [take_snoc l k hkl, clsFold_snoc]
      generalize rdOf ByteArray.empty l (k : Int) = s at hcell hsk hstep
      generalize clsFold o ks (l.take k) = p at hO hTr hlen hstep
      have hcl := class_any s o g b p.2 wr hTr hsk (by omega)
      go_wp2_with (first | (go_at_call 14; refine hcl.mono ?_; rintro e w1 ⟨rfl, hT1, hG1⟩) | (at_builtin; refine Kd.R_append (Kd.int .i64) (w0 := w0) w0.heap.size rfl (.tmp 13) (.tmp 17) 54 3 (.int .i64 0) 8 rfl Tryd.underlying54 info_int rfl (by decide) (by omega) u4 p.1 (clsN p.2 (canonF o s.data.toList) : Int) [.int .i64 (clsN p.2 (canonF o s.data.toList) : Int)] (fun k => w.heap.size ≤ k) (fun _ => False) rfl rfl rfl (fun _ hk => hk.elim) ?aF ?aO ?aB ?aS ?aL ?_; (case aF => intro j hj; have := hG.size; have := hG1.size; omega); (case aO => exact Kd.R_grown hO hG1 (fun j hj => by simp; omega)); (case aB => exact hBr.grown hG1 hBr.size (fun j hj => by cases hj; exact hgb)); (case aS => exact Nat.le_trans hBr.size hG1.size); (case aL => omega); intro v1 w2 hO2 hB2 hg2 hat2) | fail)
      have hrow : ∀ j, u4.ownBlock = some j → w.heap.size ≤ j := hO.1
      have hG2 := grown_over (hG.trans hG1) hg2 hrow
      have hT2 := hT1.over hg2 (fun e => by have := hrow _ e; omega) (fun e => by have := hrow _ e; omega)
      go_roundw
      case rel => exact ⟨k + 1, hkl, by simp; done, by rw [hstep]; exact hO2, by rw [hstep]; exact hT2, hG2⟩
      case measure => simp [intOf]; omega
    · have hkk : k = l.length := by omega
      subst hkk
      rw [List.take_length] at hO hTr
      go_wp2_with fail
      go_ret
      exact ⟨_, rfl, hO, hTr, hG⟩
/-- A call of a function value that captures. -/
theorem goesV_ {P : Program} {ops : Array Oper} {Q : Exit → Act → World → Prop} {oi : Oper} {N : Option Tmp} {a : Act} {w : World} {K : Act → World → Prop} {f : FuncId} {fn : Func} {cv : Operand} {xs : Array Operand} {ts : Array TypeId} (hf : P.funcs[f]? = some fn) (hname : (fn.name == "runtime.NumGoroutine") = false) (hb : fn.body.isSome = true) (args cap : Array Value)
    (hw : Region.wanted oi (yielded ops a.tmps) = true) (hN : oi.dst = N) (hop : oi.op = .call { callee := .value cv, args := xs, argTypes := ts }) (hcv : a.eval cv = .func (.func f) #[] cap) (hargs : xs.map a.eval ++ cap = args)
    (h : Calls P f args w fun e w' => ∃ v, e = .returned v ∧ K (a.put N v) w') : if Region.wanted oi (yielded ops a.tmps) = true then Oper.wp P oi a w K Q else K (a.put N undef) w := by
  refine call_ f args hw hN ?_ h
  have he := enters_ hf hname hb args w
  unfold execOp
  simp [hop, resolve, Deferred.ofValue, invoke, hcv, hargs, he]
set_option maxHeartbeats 2000000 in
set_option maxRecDepth 100000 in
theorem classes_any (o : Ign) (l0 l1 : List ByteArray) (A0 A1 : Option Addr) (c0 c1 : Nat) (w : World) (hr0 : Kd.C Kd.string w A0 l0.length l0) (hr1 : Kd.C Kd.string w A1 l1.length l1) (hs0 : ∀ s ∈ l0, s.size ≤ 8388608) (hs1 : ∀ s ∈ l1, s.size ≤ 8388608) (hn : l0.length + l1.length ≤ 4194304)
    (r1 : List Int) (ks1 : List (List UInt8)) (h1 : clsFold o [] l0 = (r1, ks1)) (r2 : List Int) (ks2 : List (List UInt8)) (h2 : clsFold o ks1 l1 = (r2, ks2)) :
    Calls Tryd.prog 48 #[.slice A0 l0.length c0, .slice A1 l1.length c1, .agg #[.bool o.space, .bool o.white, .bool o.blank, .bool o.case_, .bool o.tabs, .bool o.trail]] w fun e w' => ∃ v0_ v1_ : Value, e = .returned (.tuple #[v0_, v1_, .int .i64 ((ks2.length : Nat) : Int)]) ∧ Kd.R (Kd.int .i64) 3 w' w.heap.size (fun k_ => some k_ ≠ (v1_ : Value).ownBlock) v0_ r1 ∧ Kd.R (Kd.int .i64) 3 w' w.heap.size (fun k_ => some k_ ≠ (v0_ : Value).ownBlock) v1_ r2 ∧ Below w.heap.size w w' := by
  have hmf : ∀ (fn : Fn) (first cap : Array Value) (w : World), (Instr.makeFunc fn first cap).run Tryd.prog w = .ok (.func fn first cap) w := fun _ _ _ _ => rfl
  go_enter Tryd.func48, Tryd.ntmps48
  have hB0 := below_alloc (Below.refl w.heap.size w) (.cells #[.bool o.space, .bool o.white, .bool o.blank, .bool o.case_, .bool o.tabs, .bool o.trail] 23)
  go_wp2_with fail
  refine (new_any o _).mono ?_
  rintro e w1 ⟨g, b, rfl, hgg, hgb, hT, hb1⟩
  have hB1 := hB0.trans (hb1.mono hB0.size)
  have htb := alloc_new w1 (.cells #[.pointer (some ⟨g, 0, none⟩)] 29)
  have hb2 := below_alloc (Below.refl w1.heap.size w1) (.cells #[.pointer (some ⟨g, 0, none⟩)] 29)
  go_wp2_with fail
  have hT2 := hT.grown hb2
  have hB2 := hB1.trans (hb2.mono hB1.size)
  have hgb' : w.heap.size ≤ b := Nat.le_trans hB0.size hgb
  have hneb : w1.heap.size ≠ b := by have := hT.lt; omega
  generalize w1.alloc (.cells #[.pointer (some ⟨g, 0, none⟩)] 29) = W2 at htb hb2 hT2 hB2 ⊢
  have hltb : w1.heap.size < W2.heap.size := blk_lt htb
  generalize w1.heap.size = tb at *
  refine (numbers_any w o g b tb [] l0 A0 c0 W2 hB2 hgb' hT2 htb hr0 hs0 (by simp; omega)).mono ?_
  rintro e W3 ⟨v0, rfl, hR0, hT3, hG3⟩
  have hlen1 := (clsFold_len o [] l0).2
  rw [h1] at hR0 hT3 hlen1
  simp only [List.length_nil, Nat.zero_add] at hlen1
  have hB3 := hB2.grown hG3 hB2.size (fun j hj => by cases hj; exact hgb')
  have htb3 := (hG3.block tb hltb (by simpa using hneb)).trans htb
  have hltb3 := blk_lt htb3
  go_wp2_with fail
  have hT3' : Tbl o g b W3.drew ks1 := ⟨hT3.row, hT3.own, hT3.nodup⟩
  have hB3' : Below w.heap.size w W3.drew := below_drew hB3
  have htb3' : W3.drew.heap[tb]? = some (.cells #[.pointer (some ⟨g, 0, none⟩)] 29) := htb3
  have hltb3' : tb < W3.drew.heap.size := hltb3
  have hR0' : Kd.R (Kd.int .i64) 3 W3.drew w.heap.size (fun k => W2.heap.size ≤ k) v0 r1 := Kd.R_drew hR0
  have hc3' : W3.drew.cell? ⟨tb, 0, none⟩ = some (.pointer (some ⟨g, 0, none⟩)) := (blk_cell htb3' 0).trans rfl
  refine start_ (n := 9) (S := fun w' => w'.cell? ⟨tb, 0, none⟩ = some (.pointer (some ⟨g, 0, none⟩))) (ds := []) #[false, false, false, false, false, false, false, false, false] (by kernel_rfl) rfl rfl hc3' (fun hHeld => ?_)
  generalize W3.drew = W3 at hT3' hB3' htb3' hltb3' hR0' hc3' hHeld ⊢
  refine pure_ (i := 0) (N := some 18) (v := ?_) (a' := ?_) #[true, false, false, false, false, false, false, false, false] rfl rfl (by kernel_rfl) (fun _ _ _ h => h) (Or.inl ⟨by rfl, ?_⟩) ?_ ?_
  rotate_left
  · intro w'
    go_simp
    with_reducible rfl
  rotate_left
  · simp only [Act.put, List.setIfInBounds_toArray, List.set_cons_zero, List.set_cons_succ, i64_w, i32_w]
    rfl
  refine pure_ (i := 1) (N := some 19) (v := ?_) (a' := ?_) #[true, true, false, false, false, false, false, false, false] rfl rfl (by kernel_rfl) (fun _ _ _ h => h) (Or.inl ⟨by rfl, ?_⟩) ?_ ?_
  rotate_left
  · intro w'
    go_simp
    with_reducible rfl
  rotate_left
  · simp only [Act.put, List.setIfInBounds_toArray, List.set_cons_zero, List.set_cons_succ, i64_w, i32_w]
    rfl
  refine pure_ (i := 2) (N := some 20) (v := ?_) (a' := ?_) #[true, true, true, false, false, false, false, false, false] rfl rfl (by kernel_rfl) (fun _ _ _ h => h) (Or.inl ⟨by rfl, ?_⟩) ?_ ?_
  rotate_left
  · intro w'
    go_simp
    with_reducible rfl
  rotate_left
  · simp only [Act.put, List.setIfInBounds_toArray, List.set_cons_zero, List.set_cons_succ, i64_w, i32_w]
    rfl
  refine take_ (i := 4) (N := some 22) (v := ?_) (a' := ?_) #[true, true, true, false, true, false, false, false, false] rfl rfl (by kernel_rfl) (fun _ _ _ h => h) (Or.inl ⟨by rfl, ?_⟩) hHeld ?_ ?_
  rotate_left
  · rintro w' s0
    go_simp
    with_reducible rfl
  rotate_left
  · simp only [Act.put, List.setIfInBounds_toArray, List.set_cons_zero, List.set_cons_succ, i64_w, i32_w]
    rfl
  refine one_ (i := 3) (N := some 21) #[true, true, true, true, true, false, false, false, false] rfl rfl (by kernel_rfl) (by decide) (fun K hK => ?_)
  refine goesV_ Tryd.func69 (by kernel_rfl) rfl #[.slice A1 l1.length c1, .pointer (some ⟨tb, 0, none⟩)] #[.pointer (some ⟨tb, 0, none⟩)] (by rfl) rfl rfl rfl (by simp; rfl) ?_
  refine (numbers_any w o g b tb ks1 l1 A1 c1 _ hB3' hgb' hT3' htb3' hr1 hs1 (by omega)).mono ?_
  rintro e W4 ⟨v1, rfl, hR1, hT4, hG4⟩
  refine ⟨_, rfl, ?_⟩
  rw [h2] at hR1 hT4
  have htb4 := (hG4.block tb hltb3' (by simpa using hneb)).trans htb3'
  have hc4 : W4.cell? ⟨tb, 0, none⟩ = some (.pointer (some ⟨g, 0, none⟩)) := (blk_cell htb4 0).trans rfl
  refine hK.out _ _ hc4 (fun hHeld => ?_)
  clear hK K
  refine norm_ (a' := ?_) ?_ ?_
  rotate_left
  · show Act.put _ (some 21) _ = _
    simp only [Act.put, List.setIfInBounds_toArray, List.set_cons_zero, List.set_cons_succ, i64_w, i32_w]
    rfl
  refine one_ (i := 5) (N := some 23) #[true, true, true, true, true, true, false, false, false] rfl rfl (by kernel_rfl) (by decide) (fun K hK => ?_)
  refine goes_ Tryd.func11 (by kernel_rfl) rfl #[.pointer (some ⟨g, 0, none⟩)] (by rfl) rfl rfl (by simp; rfl) ?_
  refine (size_any o g b ks2 W4 hT4).mono ?_
  rintro e W5 ⟨rfl, rfl⟩
  refine ⟨_, rfl, ?_⟩
  refine hK.out _ _ hc4 (fun hHeld => ?_)
  clear hK K
  refine norm_ (a' := ?_) ?_ ?_
  rotate_left
  · show Act.put _ (some 23) _ = _
    simp only [Act.put, List.setIfInBounds_toArray, List.set_cons_zero, List.set_cons_succ, i64_w, i32_w]
    rfl
  refine pure_ (i := 6) (N := some 6) (v := ?_) (a' := ?_) #[true, true, true, true, true, true, true, false, false] rfl rfl (by kernel_rfl) (fun _ _ _ h => h) (Or.inl ⟨by rfl, ?_⟩) ?_ ?_
  rotate_left
  · intro w'
    go_simp
    with_reducible rfl
  rotate_left
  · simp only [Act.put, List.setIfInBounds_toArray, List.set_cons_zero, List.set_cons_succ, i64_w, i32_w]
    rfl
  refine pure_ (i := 7) (N := some 7) (v := ?_) (a' := ?_) #[true, true, true, true, true, true, true, true, false] rfl rfl (by kernel_rfl) (fun _ _ _ h => h) (Or.inl ⟨by rfl, ?_⟩) ?_ ?_
  rotate_left
  · intro w'
    go_simp
    with_reducible rfl
  rotate_left
  · simp only [Act.put, List.setIfInBounds_toArray, List.set_cons_zero, List.set_cons_succ, i64_w, i32_w]
    rfl
  refine pure_ (i := 8) (N := some 8) (v := ?_) (a' := ?_) #[true, true, true, true, true, true, true, true, true] rfl rfl (by kernel_rfl) (fun _ _ _ h => h) (Or.inl ⟨by rfl, ?_⟩) ?_ ?_
  rotate_left
  · intro w'
    go_simp
    with_reducible rfl
  rotate_left
  · simp only [Act.put, List.setIfInBounds_toArray, List.set_cons_zero, List.set_cons_succ, i64_w, i32_w]
    rfl
  refine done_ (by kernel_rfl) ?_
  go_wp2_with fail
  go_ret3
  have hb3 : b < W3.heap.size := hT3'.lt.2
  have hbW2 : b < W2.heap.size := hT2.lt.2
  refine ⟨v0, v1, rfl, ?_, ?_, hB3'.grown hG4 hB3'.size (fun j hj => by cases hj; exact hgb')⟩
  · refine Kd.R_mono (Kd.R_grown (Kd.R_bound hR0') hG4 (fun k hk e => ?_)) (fun k hk e => ?_)
    · have := hk.1
      injection e with e
      omega
    · have h4 := hR1.1 k e.symm
      have := hk.2.2.1
      omega
  · refine Kd.R_mono hR1 (fun k hk e => ?_)
    have := Kd.R_lt hR0' k e.symm
    omega
/-- In the form in which the printed texts ask for it. -/
def small8 (l : List ByteArray) : Bool := l.all fun s => decide (s.size ≤ 8388608)
theorem small8_mem {l : List ByteArray} (h : small8 l = true) : ∀ s ∈ l, s.size ≤ 8388608 := fun s hs => of_decide_eq_true (List.all_eq_true.1 h s hs)
theorem small8_mk {l : List ByteArray} (h : ∀ s ∈ l, s.size ≤ 8388608) : small8 l = true := List.all_eq_true.2 fun s hs => decide_eq_true (h s hs)
def clsAll (o : Ign) (l0 l1 : List ByteArray) : List Int × List Int × Int := ((clsFold o [] l0).1, (clsFold o (clsFold o [] l0).2 l1).1, ((clsFold o (clsFold o [] l0).2 l1).2.length : Int))
def intern_Classes.f (l0 : List ByteArray) (l1 : List ByteArray) (a2_0 : Bool) (a2_1 : Bool) (a2_2 : Bool) (a2_3 : Bool) (a2_4 : Bool) (a2_5 : Bool) : Option ((List Int) × (List Int) × (Int)) :=
  if small8 l0 = true ∧ small8 l1 = true ∧ l0.length + l1.length ≤ 4194304 then some (clsAll ⟨a2_0, a2_1, a2_2, a2_3, a2_4, a2_5⟩ l0 l1) else none
theorem intern_Classes.calls (A0 : Option Addr) (c0 : Nat) (l0 : List ByteArray) (A1 : Option Addr) (c1 : Nat) (l1 : List ByteArray) (a2_0 : Bool) (a2_1 : Bool) (a2_2 : Bool) (a2_3 : Bool) (a2_4 : Bool) (a2_5 : Bool) (r1 : List Int) (r2 : List Int) (r3 : Int) (w : World) (hr0 : Kd.C Kd.string w A0 l0.length l0) (_ : l0.length ≤ c0) (hr1 : Kd.C Kd.string w A1 l1.length l1) (_ : l1.length ≤ c1) (h : intern_Classes.f l0 l1 a2_0 a2_1 a2_2 a2_3 a2_4 a2_5 = some (r1, r2, r3)) :
    Calls Tryd.prog 48 #[.slice A0 l0.length c0, .slice A1 l1.length c1, .agg #[.bool a2_0, .bool a2_1, .bool a2_2, .bool a2_3, .bool a2_4, .bool a2_5]] w fun e w' => ∃ v0_ v1_ : Value, e = .returned (.tuple #[v0_, v1_, .int .i64 r3]) ∧ Kd.R (Kd.int .i64) 3 w' w.heap.size (fun k_ => some k_ ≠ (v1_ : Value).ownBlock) v0_ r1 ∧ Kd.R (Kd.int .i64) 3 w' w.heap.size (fun k_ => some k_ ≠ (v0_ : Value).ownBlock) v1_ r2 ∧ Below w.heap.size w w' := by
  unfold intern_Classes.f at h
  split at h
  · rename_i hc
    have e := Option.some.inj h
    simp only [clsAll, Prod.mk.injEq] at e
    obtain ⟨rfl, rfl, rfl⟩ := e
    exact classes_any ⟨a2_0, a2_1, a2_2, a2_3, a2_4, a2_5⟩ l0 l1 A0 A1 c0 c1 w hr0 hr1 (small8_mem hc.1) (small8_mem hc.2.1) hc.2.2 _ _ rfl _ _ rfl
  · cases h
end Go.Proofs.YtmjbhjmgecabbaaDoor
