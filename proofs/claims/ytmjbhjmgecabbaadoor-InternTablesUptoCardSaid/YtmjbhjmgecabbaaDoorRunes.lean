/- The pieces of a text between runes of an ASCII kind are its pieces between bytes of that kind. No program in this text. -/
import Derived.Lib.FieldsP
import Derived.Lib.MapLaws
import Derived.Lib.RuneCount
import Derived.Test.YtmjbhjmgecabbaaDoorCanonPure
namespace Go.Proofs.YtmjbhjmgecabbaaDoor
open Go.Lib

theorem decode_far (s : ByteArray) (i : Nat) (hi : i < s.size) (h : 128 ≤ (s.get! i).toNat) :
    128 ≤ (Utf8.decode s i).1 ∧ ∀ j, j < (Utf8.decode s i).2 → i + j < s.size ∧ 128 ≤ (s.get! (i + j)).toNat := by
  have h0 : (s.get! (i + 0)).toNat = (s.get! i).toNat := rfl
  have hc : ∀ k, (decide (i + k < s.size) && (s.get! (i + k)).toNat / 64 == 2) = true → i + k < s.size ∧ 128 ≤ (s.get! (i + k)).toNat := by
    intro k hk
    simp only [Bool.and_eq_true, decide_eq_true_eq, beq_iff_eq] at hk
    omega
  have one : ∀ j, j < 1 → i + j < s.size ∧ 128 ≤ (s.get! (i + j)).toNat := by
    intro j hj
    obtain rfl : j = 0 := by omega
    exact ⟨hi, h⟩
  simp only [Utf8.decode, Utf8.runeError]
  rw [if_neg (by omega)]
  split
  · rename_i g
    simp only [Bool.and_eq_true] at g
    have g1 := hc 1 (by simpa using g.2)
    split
    · refine ⟨by omega, fun j hj => ?_⟩
      match j, hj with
      | 0, _ => exact ⟨hi, h⟩
      | 1, _ => exact g1
    · exact ⟨by omega, one⟩
  · split
    · rename_i g
      simp only [Bool.and_eq_true] at g
      have g1 := hc 1 (by simpa using g.1.2)
      have g2 := hc 2 (by simpa using g.2)
      split
      · rename_i k
        simp only [Bool.and_eq_true, decide_eq_true_eq] at k
        refine ⟨by omega, fun j hj => ?_⟩
        match j, hj with
        | 0, _ => exact ⟨hi, h⟩
        | 1, _ => exact g1
        | 2, _ => exact g2
      · exact ⟨by omega, one⟩
    · split
      · rename_i g
        simp only [Bool.and_eq_true] at g
        have g1 := hc 1 (by simpa using g.1.1.2)
        have g2 := hc 2 (by simpa using g.1.2)
        have g3 := hc 3 (by simpa using g.2)
        split
        · rename_i k
          simp only [Bool.and_eq_true, decide_eq_true_eq] at k
          refine ⟨by omega, fun j hj => ?_⟩
          match j, hj with
          | 0, _ => exact ⟨hi, h⟩
          | 1, _ => exact g1
          | 2, _ => exact g2
          | 3, _ => exact g3
        · exact ⟨by omega, one⟩
      · exact ⟨by omega, one⟩
theorem get_at (s : ByteArray) (i : Nat) (h : i < s.size) : s.get! i = s.data.toList[i]'(by simpa using h) := by
  show s.get! i = _
  simp [ByteArray.get!, getElem!_pos, h]
theorem piecesB_run (p : UInt8 → Bool) (l cur : List UInt8) (n : Nat) (h : ∀ j (hj : j < l.length), j < n → p l[j] = false) (hn : n ≤ l.length) : piecesB p cur l = piecesB p (cur ++ l.take n) (l.drop n) := by
  induction n generalizing l cur with
  | zero => simp
  | succ n ih =>
    cases l with
    | nil => simp at hn
    | cons c t =>
      have h0 := h 0 (by simp) (by omega)
      simp only [List.getElem_cons_zero] at h0
      rw [piecesB, h0]
      simp only [Bool.false_eq_true, if_false]
      rw [ih t (cur ++ [c]) (fun j hj hjn => by have := h (j + 1) (by simp; omega) (by omega); rwa [List.getElem_cons_succ] at this) (by simpa using hn)]
      simp
/-- p looks at bytes below 128 alone. -/
theorem fieldsP_bytes (p : Nat → Bool) (hp : ∀ n, p n = true → n < 128) (s : ByteArray) :
    (goFieldsP p s).map (·.data.toList) = piecesB (fun c => p c.toNat) [] s.data.toList := by
  have key : ∀ (f pos : Nat) (st : Option Nat) (acc : List (Nat × Nat)), s.size ≤ pos + f → pos ≤ s.size → (∀ a, st = some a → a < pos) →
      ((closeSpans s (spansFromP p s f pos st acc)).map fun x => pieceU s.data.toList x.1 x.2) = (acc.map fun x => pieceU s.data.toList x.1 x.2) ++ piecesB (fun c => p c.toNat) (openPiece s.data.toList st pos) (s.data.toList.drop pos) := by
    intro f
    have hend : ∀ (st : Option Nat) (acc : List (Nat × Nat)), (∀ a, st = some a → a < s.size) →
        ((closeSpans s (acc, st)).map fun x => pieceU s.data.toList x.1 x.2) = (acc.map fun x => pieceU s.data.toList x.1 x.2) ++ piecesB (fun c => p c.toNat) (openPiece s.data.toList st s.size) [] := by
      intro st acc h3
      cases st with
      | none => simp [closeSpans, openPiece, piecesB]
      | some a => simp [closeSpans, openPiece, piecesB, pieceU_ne s.data.toList a s.size (h3 a rfl) (by simp)]
    induction f with
    | zero =>
      intro pos st acc h1 h2 h3
      have : pos = s.size := by omega
      subst this
      rw [show s.data.toList.drop s.size = [] from List.drop_eq_nil_of_le (by simp)]
      exact hend st acc h3
    | succ f ih =>
      intro pos st acc h1 h2 h3
      by_cases hpos : pos < s.size
      · have hw := decode_width_pos s pos hpos
        have hget := get_at s pos hpos
        have hpl : pos < s.data.toList.length := by simpa using hpos
        have hdrop : s.data.toList.drop pos = s.data.toList[pos] :: s.data.toList.drop (pos + 1) := List.drop_eq_getElem_cons hpl
        unfold spansFromP
        rw [if_pos hpos]
        by_cases ha : (s.get! pos).toNat < 128
        · have hd : Utf8.decode s pos = ((s.get! pos).toNat, 1) := by
            unfold Utf8.decode
            simp only [Nat.add_zero, ha, if_true]
          rw [hd]
          simp only
          by_cases hpp : p (s.get! pos).toNat = true
          · rw [if_pos hpp, hdrop]
            have hb : p (s.data.toList[pos]).toNat = true := by rw [← hget]; exact hpp
            cases st with
            | none =>
              simp only
              rw [ih (pos + 1) none acc (by omega) (by omega) (by simp)]
              rw [show openPiece s.data.toList none pos = [] from rfl, piecesB]
              simp only [hb, if_true]
              rfl
            | some a =>
              simp only
              rw [ih (pos + 1) none _ (by omega) (by omega) (by simp)]
              rw [show openPiece s.data.toList (some a) pos = pieceU s.data.toList a pos from rfl, piecesB]
              simp only [hb, if_true]
              rw [if_neg (pieceU_ne s.data.toList a pos (h3 a rfl) (by omega))]
              simp [openPiece]
          · have hpf : p (s.get! pos).toNat = false := by simpa using hpp
            rw [if_neg hpp]
            have hrun := piecesB_run (fun c => p c.toNat) (s.data.toList.drop pos) (openPiece s.data.toList st pos) 1 (fun j hj h1 => by
              obtain rfl : j = 0 := by omega
              simp only [List.getElem_drop, Nat.add_zero]
              rw [← hget]; exact hpf) (by simp; omega)
            rw [hrun, List.drop_drop]
            cases st with
            | none =>
              simp only
              rw [ih (pos + 1) (some pos) acc (by omega) (by omega) (by simp)]
              have := pieceU_grow s.data.toList pos pos 1 (Nat.le_refl _)
              rw [show openPiece s.data.toList (some pos) (pos + 1) = pieceU s.data.toList pos (pos + 1) from rfl, ← this]
              simp [openPiece, pieceU]
            | some a =>
              simp only
              rw [ih (pos + 1) (some a) acc (by omega) (by omega) (fun b hb => by cases hb; have := h3 a rfl; omega)]
              have := pieceU_grow s.data.toList a pos 1 (by have := h3 a rfl; omega)
              simp only [openPiece]
              rw [this]
        · obtain ⟨hfar, hrest⟩ := decode_far s pos hpos (by omega)
          have hpf : p (Utf8.decode s pos).1 = false := by
            cases h : p (Utf8.decode s pos).1 with
            | false => rfl
            | true => have := hp _ h; omega
          have hwl : pos + (Utf8.decode s pos).2 ≤ s.size := by
            have := (hrest ((Utf8.decode s pos).2 - 1) (by omega)).1
            omega
          rw [hpf]
          simp only [Bool.false_eq_true, if_false]
          generalize (Utf8.decode s pos).2 = k at *
          have hrun := piecesB_run (fun c => p c.toNat) (s.data.toList.drop pos) (openPiece s.data.toList st pos) k (fun j hj hjk => by
            simp only [List.getElem_drop]
            have hh := hrest j hjk
            rw [get_at s (pos + j) hh.1] at hh
            cases h : p (s.data.toList[pos + j]'(by simpa using hh.1)).toNat with
            | false => rfl
            | true => have := hp _ h; omega) (by simp; omega)
          rw [hrun, List.drop_drop]
          cases st with
          | none =>
            simp only
            rw [ih (pos + k) (some pos) acc (by omega) (by omega) (fun b hb => by cases hb; omega)]
            have := pieceU_grow s.data.toList pos pos k (Nat.le_refl _)
            simp only [openPiece]
            rw [← this]
            simp [pieceU]
          | some a =>
            simp only
            rw [ih (pos + k) (some a) acc (by omega) (by omega) (fun b hb => by cases hb; have := h3 a rfl; omega)]
            have := pieceU_grow s.data.toList a pos k (by have := h3 a rfl; omega)
            simp only [openPiece]
            rw [this]
      · rw [spansFromP_end p s _ pos st acc hpos]
        have : pos = s.size := by omega
        subst this
        rw [show s.data.toList.drop s.size = [] from List.drop_eq_nil_of_le (by simp)]
        exact hend st acc h3
  have h := key s.size 0 none [] (by omega) (Nat.zero_le _) (by simp)
  simp only [List.map_nil, List.nil_append, openPiece, List.drop_zero] at h
  rw [← h]
  unfold goFieldsP spansOfP
  rw [List.map_map]
  apply List.map_congr_left
  intro x _
  simp [pieceU, List.extract_eq_take_drop]
end Go.Proofs.YtmjbhjmgecabbaaDoor
