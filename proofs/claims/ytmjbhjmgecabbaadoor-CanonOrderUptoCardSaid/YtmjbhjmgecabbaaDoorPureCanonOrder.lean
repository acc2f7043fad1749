/- The law CanonOrder as a plain function answers true, for texts of at most 2^23 bytes. -/
import Derived.Test.YtmjbhjmgecabbaaDoorY03o
namespace Go.Proofs.YtmjbhjmgecabbaaDoor
open Go.RowKit YtmjbhjmgecabbaaDoor.Y03

theorem eqf (a b : ByteArray) (o : Ign) (ha : a.size ≤ 8388608) (hb : b.size ≤ 8388608) : canon_Equal.f a b o.space o.white o.blank o.case_ o.tabs o.trail = some (equalF o a.data.toList b.data.toList) := by
  unfold canon_Equal.f
  rw [if_pos ⟨ha, hb⟩]
theorem works03F : redlinelaw03_works.f = some true := by decide +kernel
/-- The flags' row is known; new blocks alone. -/
def ordK (o : Ign) (k : Nat) (c : Bool) : Ign := { o with trail := k == 1, space := k == 2, white := k == 3, case_ := c }
def ordE (o : Ign) (a b : ByteArray) (k : Nat) (c : Bool) : Bool := equalF (ordK o k c) a.data.toList b.data.toList
theorem ordE_more (o : Ign) (a b : ByteArray) (k : Nat) (hk : k < 3) (h : ordE o a b k o.case_ = true) : ordE o a b (k + 1) o.case_ = true := by
  unfold ordE equalF ordK at *
  simp only [beq_iff_eq] at *
  rw [canonF_K o k o.case_ _ (by omega), canonF_K o k o.case_ _ (by omega)] at h
  rw [canonF_K o (k + 1) o.case_ _ (by omega), canonF_K o (k + 1) o.case_ _ (by omega)]
  exact canonK_more _ _ _ hk _ _ h
theorem ordE_case (o : Ign) (a b : ByteArray) (k : Nat) (hk : k < 4) (h : ordE o a b k o.case_ = true) : ordE o a b k true = true := by
  unfold ordE equalF ordK at *
  simp only [beq_iff_eq] at *
  rw [canonF_K o k o.case_ _ hk, canonF_K o k o.case_ _ hk] at h
  rw [canonF_K o k true _ hk, canonF_K o k true _ hk]
  exact canonK_small _ _ _ _ _ h
theorem eqK (a b : ByteArray) (o : Ign) (k : Nat) (i : Int) (hi : i = k) (c : Bool) (ha : a.size ≤ 8388608) (hb : b.size ≤ 8388608) : canon_Equal.f a b (i == 2) (i == 3) o.blank c o.tabs (i == 1) = some (ordE o a b k c) := by
  subst hi
  have h1 : ((k : Int) == 1) = (k == 1) := by rw [Bool.eq_iff_iff, beq_iff_eq, beq_iff_eq]; omega
  have h2 : ((k : Int) == 2) = (k == 2) := by rw [Bool.eq_iff_iff, beq_iff_eq, beq_iff_eq]; omega
  have h3 : ((k : Int) == 3) = (k == 3) := by rw [Bool.eq_iff_iff, beq_iff_eq, beq_iff_eq]; omega
  rw [h1, h2, h3]
  exact eqf a b (ordK o k c) ha hb
theorem ord_loop (a b : ByteArray) (o : Ign) (ha : a.size ≤ 8388608) (hb : b.size ≤ 8388608) (d : Nat) : ∀ (k : Nat) (i : Int) (n : Nat) (was : Bool), i = k → k + d = 4 → 2 * d < n → (was = true → k < 4 → ordE o a b k o.case_ = true) →
    redlinelaw03_CanonOrder.l0 n a b was i false false o.blank o.case_ o.tabs false = some true := by
  induction d with
  | zero =>
    intro k i n was hi hk hn hw
    obtain ⟨n, rfl⟩ : ∃ m, n = m + 1 := ⟨n - 1, by omega⟩
    simp only [redlinelaw03_CanonOrder.l0]
    rw [if_neg (by omega)]
  | succ d ih =>
    intro k i n was hi hk hn hw
    obtain ⟨n, rfl⟩ : ∃ m, n = m + 2 := ⟨n - 2, by omega⟩
    have hk4 : k < 4 := by omega
    simp only [redlinelaw03_CanonOrder.l0]
    rw [if_pos (by omega), eqK a b o k i hi o.case_ ha hb]
    simp only [Option.bind_some]
    have hnext : (∀ x : Bool, x = ordE o a b k o.case_ → redlinelaw03_CanonOrder.l0 n a b x (wrap64 (i + 1)) false false o.blank o.case_ o.tabs false = some true) := by
      intro x hx
      have hwr : wrap64 (i + 1) = ((k + 1 : Nat) : Int) := by unfold wrap64; omega
      rw [hwr]
      exact ih (k + 1) _ n x rfl (by omega) (by omega) (fun h1 h2 => ordE_more o a b k (by omega) (hx ▸ h1))
    have hc := ordE_case o a b k hk4
    cases hE : ordE o a b k o.case_ with
    | true =>
      rw [hE] at hnext
      have hj : redlinelaw03_CanonOrder.j2 (n + 1) a b i true false false false o.blank o.case_ o.tabs false (i == 2) (i == 3) o.blank o.case_ o.tabs (i == 1) = some true := by
        simp only [redlinelaw03_CanonOrder.j2]
        rw [if_neg (by decide), if_pos trivial, eqK a b o k i hi true ha hb, hc hE]
        simp only [Option.bind_some, if_true]
        exact hnext true rfl
      cases was <;> simpa using hj
    | false =>
      have hwf : was = false := by
        cases was
        · rfl
        · have := hw rfl hk4; rw [hE] at this; cases this
      subst hwf
      rw [hE] at hnext
      rw [if_neg (by decide)]
      simp only [redlinelaw03_CanonOrder.j2]
      rw [if_neg (by decide), if_neg (by decide)]
      exact hnext false rfl
theorem ord_j0 (a b : ByteArray) (o : Ign) (ha : a.size ≤ 8388608) (hb : b.size ≤ 8388608) :
    redlinelaw03_CanonOrder.j0 10 a b false o.space o.white o.blank o.case_ o.tabs o.trail = some true := by
  simp only [redlinelaw03_CanonOrder.j0]
  have h := eqK a b o 0 0 rfl o.case_ ha hb
  simp only [show ((0 : Int) == 2) = false from rfl, show ((0 : Int) == 3) = false from rfl, show ((0 : Int) == 1) = false from rfl] at h
  rw [if_neg (by decide), h]
  simp only [Option.bind_some]
  exact ord_loop a b o ha hb 4 0 0 9 _ rfl rfl (by omega) (fun h1 _ => h1)
theorem canonOrder_pure (a b c : ByteArray) (o : Ign) (ha : a.size ≤ 8388608) (hb : b.size ≤ 8388608) (hc : c.size ≤ 8388608) :
    redlinelaw03_CanonOrder.f 10 a b c o.space o.white o.blank o.case_ o.tabs o.trail = some true := by
  unfold redlinelaw03_CanonOrder.f
  rw [works03F, eqf a a o ha ha, eqf a b o ha hb, eqf b a o hb ha, eqf b c o hb hc, eqf a c o ha hc, equalF_refl, equalF_symm o b.data.toList]
  simp only [Option.bind_some, if_true]
  rw [if_neg (by simp)]
  cases hx : equalF o a.data.toList b.data.toList with
  | false => simpa using ord_j0 a b o ha hb
  | true =>
    cases hy : equalF o b.data.toList c.data.toList with
    | false => simpa using ord_j0 a b o ha hb
    | true =>
      rw [equalF_trans o hx hy]
      simpa using ord_j0 a b o ha hb
theorem canonOrder_walk (a b c : ByteArray) (o : Ign) (w : World) (ha : a.size ≤ 8388608) (hb : b.size ≤ 8388608) (hc : c.size ≤ 8388608) :
    Calls Tryd.prog 3 #[.string a, .string b, .string c, .agg #[.bool o.space, .bool o.white, .bool o.blank, .bool o.case_, .bool o.tabs, .bool o.trail]] w fun e w' => e = .returned (.bool true) ∧ Below w.heap.size w w' :=
  redlinelaw03_CanonOrder.calls 10 a b c o.space o.white o.blank o.case_ o.tabs o.trail true w rfl (canonOrder_pure a b c o ha hb hc)
end Go.Proofs.YtmjbhjmgecabbaaDoor
