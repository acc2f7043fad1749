/- The law InternGrows as a plain function answers true, for lines of at most 2^23 bytes. -/
import Derived.Test.YtfecihlkgejjmaaDoorClsPure
import Derived.Test.YtfecihlkgejjmaaDoorY041
namespace Go.Proofs.YtfecihlkgejjmaaDoor
open Go.RowKit YtfecihlkgejjmaaDoorW.PrintWords YtfecihlkgejjmaaDoor.Y04

theorem sameInts_loop (a : List Int) (ha : a.length ≤ 1000000000) (d : Nat) : ∀ (k : Nat) (i : Int), 0 ≤ i → (a.length : Int) - i = d → d < k → redlineref04_SameInts.l0 k a a i = some true := by
  induction d with
  | zero =>
    intro k i h0 hd hk
    obtain ⟨k, rfl⟩ : ∃ m, k = m + 1 := ⟨k - 1, by omega⟩
    simp only [redlineref04_SameInts.l0]
    rw [if_neg (by omega)]
  | succ d ih =>
    intro k i h0 hd hk
    obtain ⟨k, rfl⟩ : ∃ m, k = m + 1 := ⟨k - 1, by omega⟩
    simp only [redlineref04_SameInts.l0]
    rw [if_pos (by omega), if_pos h0, if_pos (by omega), if_pos trivial, show wrap64 (i + 1) = i + 1 by unfold wrap64; omega]
    exact ih k (i + 1) (by omega) (by omega) (by omega)
theorem sameInts_self (k : Nat) (a : List Int) (ha : a.length ≤ 1000000000) (hk : a.length < k) : redlineref04_SameInts.f k a a = some true := by
  unfold redlineref04_SameInts.f
  rw [if_pos rfl]
  exact sameInts_loop a ha a.length k 0 (by omega) (by omega) hk
theorem classesF (o : Ign) (a b : List ByteArray) (ha : small8 a = true) (hb : small8 b = true) (hn : a.length + b.length ≤ 4194304) : intern_Classes.f a b o.space o.white o.blank o.case_ o.tabs o.trail = some (clsAll o a b) := by
  unfold intern_Classes.f
  rw [if_pos ⟨ha, hb, hn⟩]
theorem works04F (k : Nat) (hk : 3 < k) : redlinelaw04_works.f k = some true := by
  unfold redlinelaw04_works.f
  have h : intern_Classes.f ([(⟨#[65, 10]⟩ : ByteArray), (⟨#[98, 10]⟩ : ByteArray), (⟨#[97, 10]⟩ : ByteArray)] : List ByteArray) ([(⟨#[98, 10]⟩ : ByteArray), (⟨#[99, 10]⟩ : ByteArray)] : List ByteArray) false false false true false false = some ([0, 1, 0], [1, 2], 3) := by decide +kernel
  rw [h]
  simp only [Option.bind_some]
  rw [sameInts_self k [0, 1, 0] (by decide) (by simpa using hk), sameInts_self k [1, 2] (by decide) (by simp; omega)]
  rfl
theorem small8_append {a b : List ByteArray} (ha : small8 a = true) (hb : small8 b = true) : small8 (a ++ b) = true := small8_mk fun s hs => (List.mem_append.1 hs).elim (small8_mem ha s) (small8_mem hb s)
theorem internGrows_pure (a b : List ByteArray) (o : Ign) (ha : small8 a = true) (hb : small8 b = true) :
    redlinelaw04_InternGrows.f 1000 a b o.space o.white o.blank o.case_ o.tabs o.trail = some true := by
  unfold redlinelaw04_InternGrows.f
  rw [works04F 1000 (by omega)]
  simp only [Option.bind_some, if_true]
  have hj : ∀ x : Bool, (x = false → a.length ≤ 100 ∧ b.length ≤ 100) → redlinelaw04_InternGrows.j0 1000 a b x o.space o.white o.blank o.case_ o.tabs o.trail = some true := by
    intro x hx
    rw [show (1000 : Nat) = 999 + 1 from rfl]
    simp only [redlinelaw04_InternGrows.j0]
    cases x with
    | true => rw [if_pos rfl]
    | false =>
      obtain ⟨h1, h2⟩ := hx rfl
      rw [if_neg (by decide)]
      simp only [Option.bind_some, List.nil_append, List.length_nil, Nat.zero_add]
      rw [if_pos (by omega), if_pos (by omega), classesF o a b ha hb (by omega)]
      rw [classesF o (a ++ b) [] (small8_append ha hb) rfl (by simp; omega)]
      rw [classesF o (a ++ b) (a ++ b) (small8_append ha hb) (small8_append ha hb) (by simp; omega)]
      simp only [Option.bind_some]
      have h3 := clsAll_two o a b
      rw [clsAll_self, clsAll_none]
      have hl := (clsFold_len o [] (a ++ b)).1
      have hla := (clsFold_len o [] a).1
      have hlb := (clsFold_len o (clsFold o [] a).2 b).1
      simp only
      rw [if_pos h3.2, if_pos h3.2, if_pos (by rfl)]
      have e1 : (clsAll o a b).1.length = a.length := hla
      have e2 : (clsAll o a b).2.1.length = b.length := hlb
      rw [if_pos (by omega), if_pos (by omega), h3.1, sameInts_self 999 _ (by rw [hl]; simp; omega) (by rw [hl]; simp; omega)]
      rfl
  by_cases h1 : (a.length : Int) > 100
  · rw [if_pos h1]
    exact hj true (by simp)
  · rw [if_neg h1]
    exact hj _ (fun h => by simp at h; omega)
theorem internGrows_walk (a b : List ByteArray) (o : Ign) (A0 : Option Addr) (c0 : Nat) (A1 : Option Addr) (c1 : Nat) (w : World) (hr0 : Kd.C Kd.string w A0 a.length a) (hc0 : a.length ≤ c0) (ha : small8 a = true) (hr1 : Kd.C Kd.string w A1 b.length b) (hc1 : b.length ≤ c1) (hb : small8 b = true) :
    Calls Tryd.prog 7 #[.slice A0 a.length c0, .slice A1 b.length c1, .agg #[.bool o.space, .bool o.white, .bool o.blank, .bool o.case_, .bool o.tabs, .bool o.trail]] w fun e w' => e = .returned (.bool true) ∧ Below w.heap.size w w' :=
  redlinelaw04_InternGrows.calls 1000 A0 c0 a A1 c1 b o.space o.white o.blank o.case_ o.tabs o.trail true w hr0 hc0 hr1 hc1 (internGrows_pure a b o ha hb)
end Go.Proofs.YtfecihlkgejjmaaDoor
