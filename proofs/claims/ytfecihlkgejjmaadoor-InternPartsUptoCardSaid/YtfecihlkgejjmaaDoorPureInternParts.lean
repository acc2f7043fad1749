/- The law InternParts as a plain function answers true, for lines of at most 2^23 bytes. -/
import Derived.Test.YtfecihlkgejjmaaDoorPureInternGrows
import Derived.Test.YtfecihlkgejjmaaDoorY042
namespace Go.Proofs.YtfecihlkgejjmaaDoor
open Go.RowKit YtfecihlkgejjmaaDoorW.PrintWords YtfecihlkgejjmaaDoor.Y04

theorem eqE (a b : ByteArray) (o : Ign) (ha : a.size ≤ 8388608) (hb : b.size ≤ 8388608) : canon_Equal.f a b o.space o.white o.blank o.case_ o.tabs o.trail = some (equalF o a.data.toList b.data.toList) := by
  unfold canon_Equal.f
  rw [if_pos ⟨ha, hb⟩]
theorem nums_at (o : Ign) (l : List ByteArray) (i : Nat) (hi : i < l.length) :
    rd (clsFold o [] l).1 (i : Int) = (((clsFold o [] l).2.idxOf (canonF o (rdOf ByteArray.empty l (i : Int)).data.toList) : Nat) : Int) := by
  have h := (cls_main o [] l).2.2
  have hl := (clsFold_len o [] l).1
  have h2 : rdOf ByteArray.empty l (i : Int) = l[i] := by simp [rdOf, hi]
  rw [h2]
  unfold rd
  rw [h]
  simp [hi]
theorem nums_step (o : Ign) (l : List ByteArray) (i : Nat) (hi : i < l.length) :
    rd (clsFold o [] l).1 (i : Int) = (clsN (clsFold o [] (l.take i)).2 (canonF o (rdOf ByteArray.empty l (i : Int)).data.toList) : Int) ∧
    (clsFold o [] (l.take (i + 1))).2 = clsK (clsFold o [] (l.take i)).2 (canonF o (rdOf ByteArray.empty l (i : Int)).data.toList) := by
  have h1 : (clsFold o [] (l.take (i + 1))).2 = clsK (clsFold o [] (l.take i)).2 (canonF o (rdOf ByteArray.empty l (i : Int)).data.toList) := by
    rw [take_snoc l i hi, clsFold_snoc]
    rfl
  refine ⟨?_, h1⟩
  rw [nums_at o l i hi, clsN_idx, ← h1]
  have h2 : (clsFold o [] l).2 = (clsFold o (clsFold o [] (l.take (i + 1))).2 (l.drop (i + 1))).2 := by
    have := clsFold_append o [] (l.take (i + 1)) (l.drop (i + 1))
    rw [List.take_append_drop] at this
    rw [this]
  obtain ⟨t, ht⟩ := (cls_main o (clsFold o [] (l.take (i + 1))).2 (l.drop (i + 1))).1
  rw [h2, ht, idxOf_pre (by rw [h1]; exact clsK_mem _ _)]
theorem parts_l1 (o : Ign) (l : List ByteArray) (hs : small8 l = true) (hl : l.length ≤ 1000) (i : Nat) (hi : i < l.length) (x9 nx : Int) (R : Nat)
    (hc : ∀ n, R ≤ n → redlinelaw04_InternParts.l0 n x9 l (clsFold o [] l).1 nx ((i + 1 : Nat) : Int) o.space o.white o.blank o.case_ o.tabs o.trail = some true) (d : Nat) :
    ∀ (n m : Nat), m + d = i → d + 1 + R ≤ n → redlinelaw04_InternParts.l1 n x9 l (clsFold o [] l).1 nx (i : Int) (m : Int) o.space o.white o.blank o.case_ o.tabs o.trail = some true := by
  have hlen := (clsFold_len o [] l).1
  induction d with
  | zero =>
    intro n m hm hn
    obtain ⟨n, rfl⟩ : ∃ q, n = q + 1 := ⟨n - 1, by omega⟩
    simp only [redlinelaw04_InternParts.l1]
    rw [if_neg (by omega), show wrap64 ((i : Int) + 1) = ((i + 1 : Nat) : Int) by unfold wrap64; omega]
    exact hc n (by omega)
  | succ d ih =>
    intro n m hm hn
    obtain ⟨n, rfl⟩ : ∃ q, n = q + 1 := ⟨n - 1, by omega⟩
    have hml : m < l.length := by omega
    have ei : rdOf ByteArray.empty l (i : Int) ∈ l := by simp [rdOf, hi]
    have em : rdOf ByteArray.empty l (m : Int) ∈ l := by simp [rdOf, hml]
    have hsame := cls_same o [] l _ _ ei em
    simp only [redlinelaw04_InternParts.l1]
    rw [if_pos (by omega), if_pos (by omega), if_pos (by omega), if_pos (by omega), if_pos (by omega), if_pos (by omega), if_pos (by omega), eqE _ _ o (small8_mem hs _ ei) (small8_mem hs _ em), nums_at o l i hi, nums_at o l m hml]
    simp only [Option.bind_some]
    have hb : ((((clsFold o [] l).2.idxOf (canonF o (rdOf ByteArray.empty l (i : Int)).data.toList) : Nat) : Int) == (((clsFold o [] l).2.idxOf (canonF o (rdOf ByteArray.empty l (m : Int)).data.toList) : Nat) : Int)) = equalF o (rdOf ByteArray.empty l (i : Int)).data.toList (rdOf ByteArray.empty l (m : Int)).data.toList := by
      rw [Bool.eq_iff_iff, ← hsame, beq_iff_eq]
      omega
    rw [hb, if_neg (by simp), show wrap64 ((m : Int) + 1) = ((m + 1 : Nat) : Int) by unfold wrap64; omega]
    exact ih n (m + 1) (by omega) (by omega)
theorem parts_l0 (o : Ign) (l : List ByteArray) (hs : small8 l = true) (hl : l.length ≤ 1000) (d : Nat) :
    ∀ (n i : Nat), i + d = l.length → d * (l.length + 6) + 1 ≤ n → redlinelaw04_InternParts.l0 n ((clsFold o [] l).2.length : Int) l (clsFold o [] l).1 ((clsFold o [] (l.take i)).2.length : Int) (i : Int) o.space o.white o.blank o.case_ o.tabs o.trail = some true := by
  have hlen := (clsFold_len o [] l).1
  induction d with
  | zero =>
    intro n i hi hn
    obtain ⟨n, rfl⟩ : ∃ q, n = q + 1 := ⟨n - 1, by omega⟩
    simp only [redlinelaw04_InternParts.l0]
    rw [if_neg (by omega), show i = l.length by omega, List.take_length]
    simp
  | succ d ih =>
    intro n i hi hn
    rw [Nat.succ_mul] at hn
    obtain ⟨n, rfl⟩ : ∃ q, n = q + 3 := ⟨n - 3, by omega⟩
    have hil : i < l.length := by omega
    obtain ⟨h1, h2⟩ := nums_step o l i hil
    have hle := (clsFold_len o [] (l.take i)).2
    have htl : (l.take i).length ≤ 1000 := by simp; omega
    have hN : clsN (clsFold o [] (l.take i)).2 (canonF o (rdOf ByteArray.empty l (i : Int)).data.toList) ≤ (clsFold o [] (l.take i)).2.length := List.idxOf_le_length
    have hj4 : ∀ nx : Int, nx = ((clsFold o [] (l.take (i + 1))).2.length : Int) → redlinelaw04_InternParts.j4 (n + 1) ((clsFold o [] l).2.length : Int) l (clsFold o [] l).1 nx (i : Int) o.space o.white o.blank o.case_ o.tabs o.trail = some true := by
      rintro nx rfl
      simp only [redlinelaw04_InternParts.j4]
      exact parts_l1 o l hs hl i hil _ _ (d * (l.length + 6) + 1) (fun q hq => ih q (i + 1) (by omega) hq) i n 0 (by omega) (by omega)
    have hj3 : redlinelaw04_InternParts.j3 (n + 2) ((clsFold o [] l).2.length : Int) l (clsFold o [] l).1 ((clsFold o [] (l.take i)).2.length : Int) (i : Int) false o.space o.white o.blank o.case_ o.tabs o.trail = some true := by
      simp only [redlinelaw04_InternParts.j3]
      rw [if_neg (by decide), if_pos (by omega), if_pos (by omega), h1]
      by_cases hx : canonF o (rdOf ByteArray.empty l (i : Int)).data.toList ∈ (clsFold o [] (l.take i)).2
      · have hlt : clsN (clsFold o [] (l.take i)).2 (canonF o (rdOf ByteArray.empty l (i : Int)).data.toList) < (clsFold o [] (l.take i)).2.length := List.idxOf_lt_length_of_mem hx
        rw [if_neg (by omega)]
        refine hj4 _ ?_
        rw [h2]
        unfold clsK
        rw [if_pos hx]
      · have heq : clsN (clsFold o [] (l.take i)).2 (canonF o (rdOf ByteArray.empty l (i : Int)).data.toList) = (clsFold o [] (l.take i)).2.length := List.idxOf_eq_length hx
        rw [if_pos (by omega)]
        refine hj4 _ ?_
        rw [h2]
        unfold clsK
        rw [if_neg hx]
        unfold wrap64
        simp
        simp at hle
        omega
    simp only [redlinelaw04_InternParts.l0]
    rw [if_pos (by omega), if_pos (by omega), h1, if_neg (by omega), show (decide ((clsN (clsFold o [] (l.take i)).2 (canonF o (rdOf ByteArray.empty l (i : Int)).data.toList) : Int) > ((clsFold o [] (l.take i)).2.length : Int))) = false by simp; omega]
    exact hj3
theorem internParts_pure (a b : List ByteArray) (o : Ign) (ha : small8 a = true) (hb : small8 b = true) :
    redlinelaw04_InternParts.f 20000 a b o.space o.white o.blank o.case_ o.tabs o.trail = some true := by
  unfold redlinelaw04_InternParts.f
  rw [works04F 20000 (by omega)]
  simp only [Option.bind_some, if_true]
  have hj : ∀ x : Bool, (x = false → a.length ≤ 60 ∧ b.length ≤ 60) → redlinelaw04_InternParts.j0 20000 a b x o.space o.white o.blank o.case_ o.tabs o.trail = some true := by
    intro x hx
    rw [show (20000 : Nat) = 19999 + 1 from rfl]
    simp only [redlinelaw04_InternParts.j0]
    cases x with
    | true => rw [if_pos rfl]
    | false =>
      obtain ⟨h1, h2⟩ := hx rfl
      rw [if_neg (by decide)]
      simp only [Option.bind_some, List.nil_append, List.length_nil, Nat.zero_add]
      rw [if_pos (by omega), if_pos (by omega), classesF o a b ha hb (by omega)]
      simp only [Option.bind_some]
      have h3 := clsAll_two o a b
      have e1 : (clsAll o a b).1.length = a.length := (clsFold_len o [] a).1
      have e2 : (clsAll o a b).2.1.length = b.length := (clsFold_len o (clsFold o [] a).2 b).1
      rw [if_pos (by omega), show (((clsAll o a b).2.1.length : Int) != (b.length : Int)) = false by rw [e2]; simp]
      rw [show (19999 : Nat) = 19998 + 1 from rfl]
      simp only [redlinelaw04_InternParts.j1]
      rw [if_neg (by decide)]
      simp only [Option.bind_some, List.nil_append, List.length_nil, Nat.zero_add]
      rw [if_pos (by omega), if_pos (by omega), if_pos (by omega), if_pos (by omega), h3.1, h3.2]
      have hab : (a ++ b).length ≤ 120 := by simp; omega
      have hm : (a ++ b).length * ((a ++ b).length + 6) ≤ 120 * 126 := Nat.mul_le_mul hab (by omega)
      exact parts_l0 o (a ++ b) (small8_append ha hb) (by omega) (a ++ b).length 19998 0 (by omega) (by omega)
  by_cases h1 : (a.length : Int) > 60
  · rw [if_pos h1]
    exact hj true (by simp)
  · rw [if_neg h1]
    exact hj _ (fun h => by simp at h; omega)
theorem internParts_walk (a b : List ByteArray) (o : Ign) (A0 : Option Addr) (c0 : Nat) (A1 : Option Addr) (c1 : Nat) (w : World) (hr0 : Kd.C Kd.string w A0 a.length a) (hc0 : a.length ≤ c0) (ha : small8 a = true) (hr1 : Kd.C Kd.string w A1 b.length b) (hc1 : b.length ≤ c1) (hb : small8 b = true) :
    Calls Tryd.prog 8 #[.slice A0 a.length c0, .slice A1 b.length c1, .agg #[.bool o.space, .bool o.white, .bool o.blank, .bool o.case_, .bool o.tabs, .bool o.trail]] w fun e w' => e = .returned (.bool true) ∧ Below w.heap.size w w' :=
  redlinelaw04_InternParts.calls 20000 A0 c0 a A1 c1 b o.space o.white o.blank o.case_ o.tabs o.trail true w hr0 hc0 hr1 hc1 (internParts_pure a b o ha hb)
end Go.Proofs.YtfecihlkgejjmaaDoor
