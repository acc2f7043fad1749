/- A law's argument of type []string: what it reads as, and what its bulk bounds. -/
import Derived.Test.YtmjbhjmgecabbaaDoorFrame
import Derived.Test.YtmjbhjmgecabbaaDoorClasses
import Derived.Deep.Strs
namespace Go.Proofs.YtmjbhjmgecabbaaDoor
open Go.ChangeShapes Go.WideShapes Go.ChangeAt Go.RowKit Go.Joins Go.Deep YtmjbhjmgecabbaaDoorW.PrintWords
set_option linter.unusedVariables false

set_option maxRecDepth 100000 in
theorem open_strings {H : Type} {enc : TypeId × Value → H} {w : World} {base : Nat} {spare : Nat → Bool} {held : Bool} {r : Reach} {b0 : Nat} {v : Value} {d : DataW H} {p : List MemPlace}
    (hv : Value.okWide Tryd.prog w r b0 27 v) (h : DataW.Trod enc Tryd.prog w base spare held 27 v d p) :
    ∃ (A : Option Addr) (c : Nat) (l : List ByteArray), v = .slice A l.length c ∧ Kd.C Kd.string w A l.length l ∧ l.length ≤ c ∧ (∀ s ∈ l, s.size + 1 ≤ Rows.uptoBulk d) ∧ l.length ≤ Rows.uptoBulk d := by
  obtain ⟨a, len, cap, rfl⟩ := okWide_slice Tryd.underlying27 hv
  obtain ⟨fuel, hf⟩ := h
  rcases open_strs Tryd.underlying27 Tryd.underlying9 (by kernel_rfl) hf with ⟨hcs, hx⟩ | ⟨a', len', cap', m, Sx, hcs, hb, hl, hm, hmm, hx, hcell⟩
  · simp [Value.cells] at hcs
    obtain ⟨rfl, rfl, rfl⟩ := hcs
    exact ⟨none, 0, [], rfl, Kd.C_nil _ _, Nat.le_refl _, by simp, Nat.zero_le _⟩
  · simp [Value.cells] at hcs
    obtain ⟨rfl, rfl, rfl⟩ := hcs
    have hlm : len ≤ m := by rw [hmm]; split <;> omega
    have hlen : ((List.range len).map Sx).length = len := by simp
    have hd : d = _ := congrArg Prod.fst hx
    simp only at hd
    refine ⟨some a', cap, (List.range len).map Sx, by rw [hlen], ?_, by rw [hlen]; exact hl, ?_, ?_⟩
    · refine Kd.C_of_reads (d := ByteArray.empty) ⟨rfl, ?_, fun _ => ⟨a', rfl, fun j hj => ?_⟩⟩
      · rw [hlen]; unfold maxLen at hm; omega
      · rw [hlen] at hj
        rw [(hcell j (by omega)).1]
        simp [hj]
    · intro s hs
      obtain ⟨i, hi, rfl⟩ := List.mem_map.1 hs
      have h1 : (DataW.lit (H := H) (.string (Sx i).data.toList)) ∈ (List.range len).map fun i => (DataW.lit (H := H) (.string (Sx i).data.toList)) := List.mem_map.2 ⟨i, hi, rfl⟩
      have h2 := bulks.part_le h1
      rw [bulks.string_eq] at h2
      have h3 := bulks.slice_elems ((List.range len).map fun i => (DataW.lit (H := H) (.string (Sx i).data.toList))) ((List.range (m - len)).map fun j => .lit (.string (Sx (len + j)).data.toList))
      rw [hd]
      have h4 : (Sx i).data.toList.length = (Sx i).size := by simp
      omega
    · have h3 := bulks.slice_le ((List.range len).map fun i => (DataW.lit (H := H) (.string (Sx i).data.toList))) ((List.range (m - len)).map fun j => .lit (.string (Sx (len + j)).data.toList))
      rw [hd, hlen]
      simp only [List.length_map, List.length_range] at h3
      omega
end Go.Proofs.YtmjbhjmgecabbaaDoor
