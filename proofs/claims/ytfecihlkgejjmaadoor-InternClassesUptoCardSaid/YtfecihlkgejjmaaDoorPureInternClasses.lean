/- The law InternClasses as a plain function answers true, for lines of at most 2^23 bytes. -/
import Derived.Test.YtfecihlkgejjmaaDoorY4c1
import Derived.Test.YtfecihlkgejjmaaDoorClsPure
namespace Go.Proofs.YtfecihlkgejjmaaDoor
open Go.RowKit YtfecihlkgejjmaaDoorW.PrintWords YtfecihlkgejjmaaDoor.Y4c

theorem sameIntsC_loop (a : List Int) (ha : a.length ≤ 1000000000) (d : Nat) : ∀ (k : Nat) (i : Int), 0 ≤ i → (a.length : Int) - i = d → d < k → redlineref04_SameInts.l0 k a a i = some true := by
  induction d with
  | zero =>
    intro k i h0 hd hk
    obtain ⟨k, rfl⟩ : ∃ m, k = m + 1 := ⟨k - 1, by omega⟩
    simp only [redlineref04_SameInts.l0]
    rw [if_neg (by omega)]
  | succ d ih =>
    intro k i h0 hd hk
    obtain ⟨k, rfl⟩ : ∃ m, k = m + 1 := ⟨k - 1, by omega⟩
    simp only [redlineref04_SameInts.l0]
    rw [if_pos (by omega), if_pos h0, if_pos (by omega), if_pos trivial, show wrap64 (i + 1) = i + 1 by unfold wrap64; omega]
    exact ih k (i + 1) (by omega) (by omega) (by omega)
theorem sameIntsC (k : Nat) (a : List Int) (ha : a.length ≤ 1000000000) (hk : a.length < k) : redlineref04_SameInts.f k a a = some true := by
  unfold redlineref04_SameInts.f
  rw [if_pos rfl]
  exact sameIntsC_loop a ha a.length k 0 (by omega) (by omega) hk
theorem sameStrsC_loop (a : List ByteArray) (ha : a.length ≤ 1000000000) (d : Nat) : ∀ (k : Nat) (i : Int), 0 ≤ i → (a.length : Int) - i = d → d < k → redlineref01_SameStrings.l0 k a a i = some true := by
  induction d with
  | zero =>
    intro k i h0 hd hk
    obtain ⟨k, rfl⟩ : ∃ m, k = m + 1 := ⟨k - 1, by omega⟩
    simp only [redlineref01_SameStrings.l0]
    rw [if_neg (by omega)]
  | succ d ih =>
    intro k i h0 hd hk
    obtain ⟨k, rfl⟩ : ∃ m, k = m + 1 := ⟨k - 1, by omega⟩
    simp only [redlineref01_SameStrings.l0]
    rw [if_pos (by omega), if_pos h0, if_pos (by omega), if_pos trivial, show wrap64 (i + 1) = i + 1 by unfold wrap64; omega]
    exact ih k (i + 1) (by omega) (by omega) (by omega)
theorem sameStrsC (k : Nat) (a : List ByteArray) (ha : a.length ≤ 1000000000) (hk : a.length < k) : redlineref01_SameStrings.f k a a = some true := by
  unfold redlineref01_SameStrings.f
  rw [if_pos rfl]
  exact sameStrsC_loop a ha a.length k 0 (by omega) (by omega) hk
theorem classesC (o : Ign) (a b : List ByteArray) (ha : small8 a = true) (hb : small8 b = true) (hn : a.length + b.length ≤ 4194304) : intern_Classes.f a b o.space o.white o.blank o.case_ o.tabs o.trail = some (clsAll o a b) := by
  unfold intern_Classes.f
  rw [if_pos ⟨ha, hb, hn⟩]
theorem internClasses_pure (a b : List ByteArray) (o : Ign) (ha : small8 a = true) (hb : small8 b = true) :
    redlinelaw04_InternClasses.f 1000 a b o.space o.white o.blank o.case_ o.tabs o.trail = some true := by
  unfold redlinelaw04_InternClasses.f
  have hj : ∀ x : Bool, (x = false → a.length ≤ 300 ∧ b.length ≤ 300) → redlinelaw04_InternClasses.j0 1000 a b x o.space o.white o.blank o.case_ o.tabs o.trail = some true := by
    intro x hx
    rw [show (1000 : Nat) = 999 + 1 from rfl]
    simp only [redlinelaw04_InternClasses.j0]
    cases x with
    | true => rw [if_pos rfl]
    | false =>
      obtain ⟨h1, h2⟩ := hx rfl
      rw [if_neg (by decide)]
      unfold redlineref04_Classes.f
      simp only [Option.bind_some, List.nil_append, List.length_nil, Nat.zero_add]
      rw [if_pos (by omega), if_pos (by omega), classesC o a b ha hb (by omega)]
      simp only [Option.bind_some]
      have e1 : (clsAll o a b).1.length = a.length := (clsFold_len o [] a).1
      have e2 : (clsAll o a b).2.1.length = b.length := (clsFold_len o (clsFold o [] a).2 b).1
      rw [sameIntsC 999 _ (by omega) (by omega)]
      simp only [Option.bind_some, if_true]
      rw [sameIntsC 999 _ (by omega) (by omega)]
      simp only [Option.bind_some, if_true]
      rw [sameStrsC 999 a (by omega) (by omega)]
      simp only [Option.bind_some, if_true]
      rw [sameStrsC 999 b (by omega) (by omega)]
      rfl
  by_cases h1 : (a.length : Int) > 300
  · rw [if_pos h1]
    exact hj true (by simp)
  · rw [if_neg h1]
    exact hj _ (fun h => by simp at h; omega)
theorem internClasses_walk (a b : List ByteArray) (o : Ign) (A0 : Option Addr) (c0 : Nat) (A1 : Option Addr) (c1 : Nat) (w : World) (hr0 : Kd.C Kd.string w A0 a.length a) (hc0 : a.length ≤ c0) (ha : small8 a = true) (hr1 : Kd.C Kd.string w A1 b.length b) (hc1 : b.length ≤ c1) (hb : small8 b = true) :
    Calls Tryd.prog 6 #[.slice A0 a.length c0, .slice A1 b.length c1, .agg #[.bool o.space, .bool o.white, .bool o.blank, .bool o.case_, .bool o.tabs, .bool o.trail]] w fun e w' => e = .returned (.bool true) ∧ Below w.heap.size w w' :=
  redlinelaw04_InternClasses.calls 1000 A0 c0 a A1 c1 b o.space o.white o.blank o.case_ o.tabs o.trail true w hr0 hc0 hr1 hc1 (internClasses_pure a b o ha hb)
end Go.Proofs.YtfecihlkgejjmaaDoor
