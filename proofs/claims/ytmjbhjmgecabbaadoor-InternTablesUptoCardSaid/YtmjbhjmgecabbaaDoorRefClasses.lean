/- The reference's Classes: the same numbers as the program's. -/
import Derived.Test.YtmjbhjmgecabbaaDoorRefTbl
namespace Go.Proofs.YtmjbhjmgecabbaaDoor
open Go.RowKit YtmjbhjmgecabbaaDoorW.PrintWords YtmjbhjmgecabbaaDoorW.PrintLast
set_option linter.unusedVariables false
set_option linter.unusedSimpArgs false

def refFold (o : Ign) (L : List ByteArray) (l : List ByteArray) : List ByteArray := l.foldl (refK o) L
theorem refFold_snoc (o : Ign) (L l : List ByteArray) (s : ByteArray) : refFold o L (l ++ [s]) = refK o (refFold o L l) s := by unfold refFold; rw [List.foldl_append]; rfl
theorem refFold_forms (o : Ign) (L l : List ByteArray) : forms o (refFold o L l) = (clsFold o (forms o L) l).2 := by
  induction l using snoc_rec with
  | nil => rfl
  | snoc l s ih => rw [refFold_snoc, refK_forms, ih, clsFold_snoc]; rfl
theorem R_kept {w w' : World} {base : Nat} {ok : Nat → Prop} {v : Value} {xs : List Int} (h : Kd.R (Kd.int .i64) 3 w base ok v xs) (hk : KeptT w w') : Kd.R (Kd.int .i64) 3 w' base ok v xs := by
  refine Kd.R_mono (Kd.R_move (Kd.R_bound h) (fun k hk' => ?_)) (fun _ h' => h'.1)
  obtain ⟨_, _, hlt, q, hq, cells, hc⟩ := hk'
  obtain rfl : q = 3 := by simpa [Kd.int, Kd.scalar] using hq
  rw [hc]
  exact hk.kept k _ hc (fun cs fr e => by cases e) (fun cs fr e => by cases e)
theorem RTbl.over {base : Nat} {o : Ign} {g : Nat} {w w' : World} {L : List ByteArray} {u : Value} {ys : List Int} {ok : Nat → Prop} (h : RTbl base o g w L) (hu : Kd.R (Kd.int .i64) 3 w base ok u ys) (hg : w.grownBy w' u.ownBlock) : RTbl base o g w' L := by
  obtain ⟨⟨A, c, hrow, hR⟩, hsm, hnd⟩ := h
  exact ⟨⟨A, c, blk_grown hrow hg (Kd.R_ne hu hrow (by decide)), Kd.R_over' hR (Kd.R_typed hu) (by decide) hg⟩, hsm, hnd⟩
theorem RTbl.below {base : Nat} {o : Ign} {g : Nat} {w w' : World} {L : List ByteArray} (h : RTbl base o g w L) (hb : Below w.heap.size w w') : RTbl base o g w' L := by
  obtain ⟨⟨A, c, hrow, hR⟩, hsm, hnd⟩ := h
  exact ⟨⟨A, c, (hb.block g (blk_lt hrow)).trans hrow, Kd.R_below hR hb⟩, hsm, hnd⟩
end Go.Proofs.YtmjbhjmgecabbaaDoor
