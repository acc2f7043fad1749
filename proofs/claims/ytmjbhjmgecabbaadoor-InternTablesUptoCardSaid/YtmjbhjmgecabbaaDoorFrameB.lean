/- A law's argument of type []bool: what it reads as, and what its bulk bounds. -/
import Derived.Test.YtmjbhjmgecabbaaDoorFrameS
import Derived.Deep.Grids
namespace Go.Proofs.YtmjbhjmgecabbaaDoor
open Go.ChangeShapes Go.WideShapes Go.ChangeAt Go.RowKit Go.Joins Go.Deep YtmjbhjmgecabbaaDoorW.PrintWords
set_option linter.unusedVariables false

set_option maxRecDepth 100000 in
theorem open_boolsB {H : Type} {enc : TypeId × Value → H} {w : World} {base : Nat} {held : Bool} {r : Reach} {b0 : Nat} {v : Value} {d : DataW H} {p : List MemPlace}
    (hv : Value.okWide Tryd.prog w r b0 28 v) (h : DataW.Trod enc Tryd.prog w base (fun _ => true) held 28 v d p) :
    ∃ (A : Option Addr) (c : Nat) (l : List Bool), v = .slice A l.length c ∧ Kd.C Kd.bool w A l.length l ∧ l.length ≤ c ∧ l.length ≤ Rows.uptoBulk d := by
  obtain ⟨a, len, cap, rfl⟩ := okWide_slice Tryd.underlying28 hv
  obtain ⟨fuel, hf⟩ := h
  rcases Go.Deep.open_bools Tryd.underlying28 Tryd.underlying4 (by kernel_rfl) hf with ⟨hcs, hx⟩ | ⟨a', len', cap', B, hcs, hb, hl, hm, hx, hcell⟩
  · simp [Value.cells] at hcs
    obtain ⟨rfl, rfl, rfl⟩ := hcs
    exact ⟨none, 0, [], rfl, Kd.C_nil _ _, Nat.le_refl _, Nat.zero_le _⟩
  · simp [Value.cells] at hcs
    obtain ⟨rfl, rfl, rfl⟩ := hcs
    have hlen : ((List.range len).map B).length = len := by simp
    have hd : d = _ := congrArg Prod.fst hx
    simp only [boolRow] at hd
    refine ⟨some a', cap, (List.range len).map B, by rw [hlen], ?_, by rw [hlen]; exact hl, ?_⟩
    · refine Kd.C_of_reads (d := false) ⟨rfl, ?_, fun _ => ⟨a', rfl, fun j hj => ?_⟩⟩
      · rw [hlen]; unfold maxLen at hm; omega
      · rw [hlen] at hj
        rw [hcell j (by omega)]
        simp [hj]
    · have h3 := bulks.slice_le ((List.range len).map fun i => (DataW.lit (H := H) (.bool (B i)))) ((List.range (cap - len)).map fun j => .lit (.bool (B (len + j))))
      rw [hd, hlen]
      simp only [List.length_map, List.length_range] at h3
      omega
end Go.Proofs.YtmjbhjmgecabbaaDoor
