/- What the classes' numbers of a text are: places of forms in one list, that each line lengthens by at most its own form. -/
import Derived.Test.YtmjbhjmgecabbaaDoorClasses
namespace Go.Proofs.YtmjbhjmgecabbaaDoor
open Go.RowKit

theorem idxOf_pre {l t : List (List UInt8)} {x : List UInt8} (h : x ∈ l) : (l ++ t).idxOf x = l.idxOf x := by rw [List.idxOf_append, if_pos h]
theorem clsK_pre (ks : List (List UInt8)) (x : List UInt8) : ∃ t, clsK ks x = ks ++ t := by
  unfold clsK
  split
  · exact ⟨[], by simp⟩
  · exact ⟨[x], rfl⟩
theorem clsK_mem (ks : List (List UInt8)) (x : List UInt8) : x ∈ clsK ks x := by unfold clsK; split <;> simp_all
theorem clsN_idx (ks : List (List UInt8)) (x : List UInt8) : clsN ks x = (clsK ks x).idxOf x := by
  unfold clsN clsK
  split
  · rfl
  · rename_i h
    rw [List.idxOf_append, if_neg h, List.idxOf_eq_length h]
    simp
theorem clsFold_append (o : Ign) (ks : List (List UInt8)) (a b : List ByteArray) : clsFold o ks (a ++ b) = ((clsFold o ks a).1 ++ (clsFold o (clsFold o ks a).2 b).1, (clsFold o (clsFold o ks a).2 b).2) := by
  induction b using snoc_rec with
  | nil => simp [clsFold]
  | snoc b s ih =>
    rw [← List.append_assoc, clsFold_snoc, ih, clsFold_snoc]
    simp [clsStep]
theorem cls_main (o : Ign) (ks : List (List UInt8)) (l : List ByteArray) :
    (∃ t, (clsFold o ks l).2 = ks ++ t) ∧ (∀ s ∈ l, canonF o s.data.toList ∈ (clsFold o ks l).2) ∧ (clsFold o ks l).1 = l.map (fun s => (((clsFold o ks l).2.idxOf (canonF o s.data.toList) : Nat) : Int)) := by
  induction l using snoc_rec with
  | nil => exact ⟨⟨[], by simp [clsFold]⟩, by simp, rfl⟩
  | snoc l s ih =>
    obtain ⟨⟨t, ht⟩, hm, h1⟩ := ih
    rw [clsFold_snoc]
    obtain ⟨u, hu⟩ := clsK_pre (clsFold o ks l).2 (canonF o s.data.toList)
    simp only [clsStep]
    refine ⟨⟨t ++ u, by rw [hu, ht, List.append_assoc]⟩, fun x hx => ?_, ?_⟩
    · rcases List.mem_append.1 hx with hx | hx
      · rw [hu]; exact List.mem_append_left _ (hm x hx)
      · obtain rfl : x = s := by simpa using hx
        exact clsK_mem _ _
    · rw [List.map_append, h1, clsN_idx]
      congr 1
      refine List.map_congr_left fun x hx => ?_
      rw [hu, idxOf_pre (hm x hx)]
theorem clsFold_old (o : Ign) (ks : List (List UInt8)) (l : List ByteArray) (h : ∀ s ∈ l, canonF o s.data.toList ∈ ks) : (clsFold o ks l).2 = ks := by
  induction l using snoc_rec with
  | nil => rfl
  | snoc l s ih =>
    have h1 := ih (fun x hx => h x (List.mem_append_left _ hx))
    rw [clsFold_snoc]
    simp only [clsStep]
    rw [h1]
    unfold clsK
    rw [if_pos (h s (by simp))]
theorem clsFold_nodup (o : Ign) (ks : List (List UInt8)) (l : List ByteArray) (h : ks.Nodup) : (clsFold o ks l).2.Nodup := by
  induction l using snoc_rec with
  | nil => exact h
  | snoc l s ih => rw [clsFold_snoc]; exact clsK_nodup _ _ ih
theorem clsAll_self (o : Ign) (l : List ByteArray) : clsAll o l l = ((clsFold o [] l).1, (clsFold o [] l).1, ((clsFold o [] l).2.length : Int)) := by
  have hm := cls_main o [] l
  have h2 := clsFold_old o _ l hm.2.1
  have h3 := (cls_main o (clsFold o [] l).2 l).2.2
  rw [h2] at h3
  unfold clsAll
  rw [h3, h2, ← hm.2.2]
theorem clsAll_none (o : Ign) (l : List ByteArray) : clsAll o l [] = ((clsFold o [] l).1, [], ((clsFold o [] l).2.length : Int)) := rfl
theorem clsAll_two (o : Ign) (a b : List ByteArray) : (clsAll o a b).1 ++ (clsAll o a b).2.1 = (clsFold o [] (a ++ b)).1 ∧ (clsAll o a b).2.2 = ((clsFold o [] (a ++ b)).2.length : Int) := by
  rw [clsFold_append]
  exact ⟨rfl, rfl⟩
/-- Two lines have one number just if they count as the same. -/
theorem cls_same (o : Ign) (ks : List (List UInt8)) (l : List ByteArray) (s t : ByteArray) (hs : s ∈ l) (ht : t ∈ l) :
    ((clsFold o ks l).2.idxOf (canonF o s.data.toList) = (clsFold o ks l).2.idxOf (canonF o t.data.toList)) ↔ equalF o s.data.toList t.data.toList = true := by
  have hm := (cls_main o ks l).2.1
  unfold equalF
  rw [beq_iff_eq]
  constructor
  · intro h
    have h1 := List.getElem_idxOf (List.idxOf_lt_length_of_mem (hm s hs))
    have h2 := List.getElem_idxOf (List.idxOf_lt_length_of_mem (hm t ht))
    rw [← h1, ← h2]
    congr 1
  · intro h; rw [h]
end Go.Proofs.YtmjbhjmgecabbaaDoor
