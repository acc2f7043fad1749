/- canon.small: the letters A to Z are a to z. -/
import Derived.Test.YtmjbhjmgecabbaaDoorArr
import Derived.Test.YtmjbhjmgecabbaaDoorCanonPure
import Derived.Outline
namespace Go.Proofs.YtmjbhjmgecabbaaDoor
open Go.RowKit YtmjbhjmgecabbaaDoorW.PrintWords

def bcells (l : List UInt8) : List Value := l.map fun b => .int .u8 b.toNat
theorem bcells_at (l : List UInt8) (k : Nat) (h : k < l.length) : (bcells l)[k]? = some (.int .u8 (l[k]'h).toNat) := by simp [bcells, h]
theorem small_at (l : List UInt8) (k : Nat) (hk : k < l.length) : (smallF (l.take k) ++ l.drop k)[k]'(by simp [smallF]; omega) = l[k] := by
  rw [List.getElem_append_right (by simp [smallF]; omega)]
  simp [smallF, Nat.min_eq_left (Nat.le_of_lt hk)]
theorem small_next (l : List UInt8) (k : Nat) (hk : k < l.length) : (smallF (l.take k) ++ l.drop k).set k (lower l[k]) = smallF (l.take (k + 1)) ++ l.drop (k + 1) := by
  have h1 : (smallF (l.take k)).length = k := by simp [smallF]; omega
  have h2 : smallF (l.take (k + 1)) = smallF (l.take k) ++ [lower l[k]] := by
    unfold smallF; rw [List.take_succ_eq_append_getElem hk, List.map_append]; rfl
  rw [List.set_append_right k _ (by omega), h1, Nat.sub_self, List.drop_eq_getElem_cons hk, List.set_cons_zero, h2]
  simp
theorem small_same (l : List UInt8) (k : Nat) (hk : k < l.length) (h : lower l[k] = l[k]) : smallF (l.take k) ++ l.drop k = smallF (l.take (k + 1)) ++ l.drop (k + 1) := by
  rw [← small_next l k hk, h]
  have := small_at l k hk
  apply List.ext_getElem?
  intro i
  rw [List.getElem?_set]
  split
  · rename_i e; subst e
    rw [List.getElem?_eq_getElem (by simp [smallF]; omega), this]
    simp [smallF]; omega
  · rfl
theorem lower_up (c : UInt8) (h1 : 65 ≤ (c.toNat : Int)) (h2 : (c.toNat : Int) ≤ 90) : ((lower c).toNat : Int) = (c.toNat : Int) + 97 - 65 := by
  have h : ∀ n : Fin 256, 65 ≤ n.val → n.val ≤ 90 → (lower (UInt8.ofNat n.val)).toNat = n.val + 32 := by decide +kernel
  have := h ⟨c.toNat, c.toNat_lt⟩ (by show 65 ≤ c.toNat; omega) (by show c.toNat ≤ 90; omega)
  simp only [UInt8.ofNat_toNat] at this
  omega
theorem lower_no (c : UInt8) (h : ¬ (65 ≤ (c.toNat : Int) ∧ (c.toNat : Int) ≤ 90)) : lower c = c := by
  unfold lower
  rw [if_neg]
  simp only [Bool.and_eq_true, decide_eq_true_eq, UInt8.le_iff_toNat_le]
  intro ⟨a, b⟩
  apply h
  have e1 : (65 : UInt8).toNat = 65 := rfl
  have e2 : (90 : UInt8).toNat = 90 := rfl
  omega
theorem bcells_set (l : List UInt8) (k : Nat) (c : UInt8) : (bcells l).set k (.int .u8 c.toNat) = bcells (l.set k c) := by simp [bcells, List.map_set]
set_option maxHeartbeats 1000000 in
theorem small_any (s : ByteArray) (w : World) (hs : s.size ≤ 268435456) :
    Calls Tryd.prog 74 #[.string s] w fun e w' => e = .returned (.string ⟨(smallF s.data.toList).toArray⟩) ∧ Below w.heap.size w w' := by
  go_enter Tryd.func74, Tryd.ntmps74
  have hcv := fun W : World => Lib.run_convert_string_bytes (P := Tryd.prog) W 9 74 5 s Tryd.underlying9 Tryd.underlying74 Tryd.underlying5
  go_wp2_with fail
  clear hcv
  have hA0 : Arr (Lib.bytesWorld w 5 s) w.heap.size 5 (bcells s.data.toList) := Arr.bytes w s
  have hb0 := bytes_below w s
  generalize Lib.bytesWorld w 5 s = W at *
  generalize grownCap w s.size 0 5 = cap
  have hsz : s.data.toList.length = s.size := by simp
  obtain ⟨l, hl⟩ : ∃ l, s.data.toList = l := ⟨_, rfl⟩
  rw [hl] at hA0 hsz
  have HL := Lib.hid hl
  have HZ := Lib.hid hsz
  clear hl hsz
  go_loopw [10] (fun i wr => ∃ k : Nat, k ≤ s.size ∧ i = .int .i64 k ∧ Arr wr w.heap.size 5 (bcells (smallF (l.take k) ++ l.drop k)) ∧ Below w.heap.size w wr) (fun i _ => s.size - (intOf i).toNat)
  case atStart => exact ⟨0, Nat.zero_le _, rfl, hA0, hb0⟩
  case round =>
    clear hA0 hb0
    obtain ⟨k, hk, rfl, hA, hb⟩ := hrel
    by_cases hlt : k < s.size
    · have hkl : k < l.length := by rw [HZ.out]; exact hlt
      have hlen : k < (bcells (smallF (l.take k) ++ l.drop k)).length := by simp [bcells, smallF]; omega
      have hcell := hA.cell k (bcells_at _ k (by simpa [bcells] using hlen))
      rw [small_at l k hkl] at hcell
      have hfree := hA.free k hlen
      have HN := Lib.hid (small_next l k hkl)
      have hSet := hA.set k (.int .u8 (lower l[k]).toNat) hlen
      rw [bcells_set, HN.out] at hSet
      have HS := Lib.hid (small_same l k hkl)
      generalize l[k] = c at *
      clear hlen
      by_cases hu : 65 ≤ (c.toNat : Int) ∧ (c.toNat : Int) ≤ 90
      · clear hA
        obtain ⟨h1, h2⟩ := hu
        have hlow := lower_up c h1 h2
        rw [hlow] at hSet
        clear hlow
        go_wp2_with fail
        go_roundw
        case rel => exact ⟨k + 1, by omega, by go_num, hSet, hb.setCell (Nat.le_refl _) _⟩
        case measure => simp [intOf]; omega
      · have HE := Lib.hid (HS.out (lower_no c hu))
        clear hSet HS
        by_cases h1 : 65 ≤ (c.toNat : Int)
        all_goals
          have h2 : (c.toNat : Int) ≤ 90 → ¬ 65 ≤ (c.toNat : Int) := fun a b => hu ⟨b, a⟩
          have h3 : ¬ 65 ≤ (c.toNat : Int) ∨ ¬ (c.toNat : Int) ≤ 90 := by omega
          clear hu h2
        · have h2 : ¬ (c.toNat : Int) ≤ 90 := by omega
          clear h3
          go_wp2_with fail
          go_roundw
          case rel => exact ⟨k + 1, by omega, by go_num, HE.out ▸ hA, hb⟩
          case measure => simp [intOf]; omega
        · clear h3
          go_wp2_with fail
          go_roundw
          case rel => exact ⟨k + 1, by omega, by go_num, HE.out ▸ hA, hb⟩
          case measure => simp [intOf]; omega
    · have hfin : smallF (l.take k) ++ l.drop k = smallF l := by
        have : l.length ≤ k := by rw [HZ.out]; omega
        rw [List.take_of_length_le this, List.drop_eq_nil_of_le this, List.append_nil]
      rw [hfin] at hA
      have hcs := hA.toString (n := s.size) (c := cap) (by rw [← HZ.out]; simp [smallF]) (by omega)
      clear hfin hA
      go_wp2_with fail
      go_ret
      exact ⟨by rw [HL.out]; rfl, hb⟩
end Go.Proofs.YtmjbhjmgecabbaaDoor
