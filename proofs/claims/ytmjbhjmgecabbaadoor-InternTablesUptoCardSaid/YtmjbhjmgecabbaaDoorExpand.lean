/- canon.Expand is the chapter's expansion of tabs. -/
import Derived.Test.YtmjbhjmgecabbaaDoorBld
import Derived.Test.YtmjbhjmgecabbaaDoorCanonPure
import Derived.Outline
namespace Go.Proofs.YtmjbhjmgecabbaaDoor
open Go.RowKit YtmjbhjmgecabbaaDoorW.PrintWords

theorem expandGo_len (out s : List UInt8) : (expandGo out s).length ≤ out.length + 8 * s.length := by
  induction s generalizing out with
  | nil => simp [expandGo]
  | cons c t ih =>
    simp only [expandGo]
    split
    · have := ih (out ++ List.replicate (8 - out.length % 8) 32)
      simp at this ⊢; omega
    · have := ih (out ++ [c])
      simp at this ⊢; omega
theorem expandGo_snoc (out s : List UInt8) (c : UInt8) : expandGo out (s ++ [c]) = (if c == 9 then expandGo out s ++ List.replicate (8 - (expandGo out s).length % 8) 32 else expandGo out s ++ [c]) := by
  induction s generalizing out with
  | nil => simp only [List.nil_append, expandGo]
  | cons d t ih =>
    simp only [List.cons_append, expandGo]
    split <;> exact ih _
theorem take_at (s : ByteArray) (k : Nat) (h : k < s.size) : s.data.toList.take (k + 1) = s.data.toList.take k ++ [s[k]] := by
  rw [List.take_succ_eq_append_getElem (by simpa using h)]; rfl
theorem repeatL_blank (n : Nat) : Lib.repeatL [32] n = List.replicate n (32 : UInt8) := by
  induction n with
  | zero => rfl
  | succ n ih => rw [List.replicate_succ, ← ih]; rfl

set_option maxHeartbeats 1000000 in
theorem expand_any (s : ByteArray) (w : World) (hs : s.size ≤ 268435456) :
    Calls Tryd.prog 36 #[.string s] w fun e w' => e = .returned (.string ⟨(expandF s.data.toList).toArray⟩) ∧ Below w.heap.size w w' := by
  go_enter Tryd.func36, Tryd.ntmps36
  go_wp2_with fail
  go_loopw [7] (fun i wr => ∃ k : Nat, k ≤ s.size ∧ i = .int .i64 k ∧ Bld w.heap.size w.heap.size (expandGo [] (s.data.toList.take k)) wr ∧ Below w.heap.size w wr) (fun i _ => s.size - (intOf i).toNat)
  case atStart => exact ⟨0, Nat.zero_le _, rfl, Bld.fresh w, (Below.refl _ _).alloc (Nat.le_refl _) _⟩
  case round =>
    obtain ⟨k, hk, rfl, hB, hb⟩ := hrel
    have hlen := expandGo_len [] (s.data.toList.take k)
    have hl : (s.data.toList.take k).length ≤ k := List.length_take_le _ _
    by_cases hlt : k < s.size
    · have hts := Lib.hid (take_at s k hlt)
      have hsn := Lib.hid (expandGo_snoc [] (s.data.toList.take k) s[k])
      by_cases h9 : s[k] = 9
      · have hc : ((s[k].toNat : Int) != 9) = false := by rw [h9]; rfl
        have H9 := Lib.hid h9
        clear h9
        obtain ⟨n, hn, hn8⟩ : ∃ n : Nat, 8 - ((expandGo [] (s.data.toList.take k)).length : Int) % 8 = (n : Int) ∧ n ≤ 8 := ⟨8 - (expandGo [] (s.data.toList.take k)).length % 8, by omega, by omega⟩
        go_wp2_with fail
        refine (hB.len).mono ?_
        rintro e w' ⟨rfl, rfl⟩
        go_wp2_with fail
        refine (Tryd.strings_Repeat ⟨#[32]⟩ n _ (by omega) (by simp only [ByteArray.size, List.size_toArray, List.length_singleton]; omega)).mono ?_
        rintro e w1 ⟨rfl, hb1⟩
        go_wp2_with fail
        have hBb := hB.below hb1
        refine (hBb.writeString _ (by simp only [List.length_nil] at hlen; omega) (by simp only [ByteArray.size, List.size_toArray, Lib.repeatL_length]; simp; omega)).mono ?_
        rintro e w2 ⟨rfl, hB2, hb2, -⟩
        go_wp2_with fail
        go_roundw
        case rel =>
          refine ⟨k + 1, by omega, by go_num, ?_, (hb.trans (hb1.mono hB.2)).trans hb2⟩
          rw [hts.out, hsn.out, if_pos (by rw [H9.out]; rfl)]
          have e : 8 - (expandGo [] (s.data.toList.take k)).length % 8 = n := by omega
          rw [e, ← repeatL_blank]
          exact hB2
        case measure => simp [intOf]; omega
      · have hc : ((s[k].toNat : Int) != 9) = true := by
          rw [bne_iff_ne]; intro h; exact h9 (UInt8.toNat_inj.1 (Int.ofNat_inj.1 h))
        have H9 := Lib.hid h9
        clear h9
        go_wp2_with fail
        refine (hB.writeByte s[k] (by simp only [List.length_nil] at hlen; omega)).mono ?_
        rintro e w' ⟨rfl, hB2, hb2, -⟩
        go_wp2_with fail
        go_roundw
        case rel => exact ⟨k + 1, by omega, by go_num, by rw [hts.out, hsn.out, if_neg (by simpa using H9.out)]; exact hB2, hb.trans hb2⟩
        case measure => simp [intOf]; omega
    · go_wp2_with (go_at_call 42; refine hB.string.mono ?_; rintro e w' ⟨rfl, -, hb2, -⟩)
      go_ret
      exact ⟨by rw [List.take_of_length_le (by simp; omega)]; rfl, hb.trans hb2⟩
end Go.Proofs.YtmjbhjmgecabbaaDoor
