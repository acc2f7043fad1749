/- The reference's canon, as its printed Lean functions, gives the same words: no Go and no memory in this text. -/
import Derived.Test.YtmjbhjmgecabbaaDoorR03x3
import Derived.Test.YtmjbhjmgecabbaaDoorEqual
namespace Go.Proofs.YtmjbhjmgecabbaaDoor
open Go.RowKit YtmjbhjmgecabbaaDoorW.PrintWords R03

def nn (l : List UInt8) : List Int := l.map fun b => (b.toNat : Int)
theorem nn_snoc (l : List UInt8) (c : UInt8) : nn l ++ [(c.toNat : Int)] = nn (l ++ [c]) := by simp [nn]
theorem nn_length (l : List UInt8) : (nn l).length = l.length := by simp [nn]
theorem strOfNums_nn (l : List UInt8) : strOfNums (nn l) = ⟨l.toArray⟩ := strOfNums_bytes l
theorem bt_nat (s : ByteArray) (i : Nat) (h : i < s.data.toList.length) : bt s (i : Int) = ((s.data.toList[i]).toNat : Int) := by
  have hs : i < s.size := by simpa using h
  unfold bt
  rw [dif_pos (by simpa using hs)]
  rfl
theorem wrap_next (i n : Nat) (h : i < n) (hn : n ≤ 4294967296) : wrap64 ((i : Int) + 1) = ((i + 1 : Nat) : Int) := by unfold wrap64; omega
theorem white_f (c : UInt8) : redlineref03_white.f (c.toNat : Int) = some (wsp c) := by
  have h : ∀ n : Fin 256, redlineref03_white.f (n.val : Int) = some (wsp (UInt8.ofNat n.val)) := by decide +kernel
  have := h ⟨c.toNat, c.toNat_lt⟩
  simpa using this

theorem small_loop (s : ByteArray) (hs : s.size ≤ 268435456) (d : Nat) : ∀ (i : Nat) (acc : List UInt8), i + d = s.size → acc.length ≤ i → ∀ k, d < k →
    redlineref03_small.l0 k s (nn acc) i = some ⟨(acc ++ smallF (s.data.toList.drop i)).toArray⟩ := by
  induction d with
  | zero =>
    intro i acc h1 h2 k hk
    obtain ⟨k, rfl⟩ : ∃ m, k = m + 1 := ⟨k - 1, by omega⟩
    simp only [redlineref03_small.l0]
    rw [if_neg (by omega), strOfNums_nn, List.drop_eq_nil_of_le (by simp; omega)]
    simp [smallF]
  | succ d ih =>
    intro i acc h1 h2 k hk
    obtain ⟨k, rfl⟩ : ∃ m, k = m + 1 := ⟨k - 1, by omega⟩
    have hl : i < s.data.toList.length := by simp; omega
    simp only [redlineref03_small.l0]
    rw [if_pos (by omega), if_pos (by omega), bt_nat s i hl, List.drop_eq_getElem_cons hl]
    generalize s.data.toList[i] = c
    rw [wrap_next i s.size (by omega) (by omega)]
    have hlen : (nn acc).length < 140737488355328 := by rw [nn_length]; omega
    have go : ∀ x : UInt8, lower c = x → redlineref03_small.l0 k s (nn acc ++ [(x.toNat : Int)]) ((i + 1 : Nat) : Int) = some ⟨(acc ++ smallF (c :: s.data.toList.drop (i + 1))).toArray⟩ := by
      intro x hx
      rw [nn_snoc, ih (i + 1) (acc ++ [x]) (by omega) (by simp; omega) k (by omega)]
      simp [smallF, hx]
    by_cases h65 : (c.toNat : Int) ≥ 65
    · rw [if_pos h65]
      by_cases h90 : (c.toNat : Int) ≤ 90
      · rw [if_pos h90, if_pos hlen]
        have := lower_up c h65 h90
        rw [show ((c.toNat : Int) - 65 + 97) % 256 = ((lower c).toNat : Int) by omega]
        exact go _ rfl
      · rw [if_neg h90, if_pos hlen]
        exact go c (lower_no c (fun h => h90 h.2))
    · rw [if_neg h65, if_pos hlen]
      exact go c (lower_no c (fun h => h65 h.1))
theorem ref_small (s : ByteArray) (hs : s.size ≤ 268435456) (k : Nat) (hk : s.size < k) : redlineref03_small.f k s = some ⟨(smallF s.data.toList).toArray⟩ := by
  have := small_loop s hs s.size 0 [] (by omega) (by simp) k hk
  simpa [nn, redlineref03_small.f] using this

theorem stripF_cons (c : UInt8) (t : List UInt8) : stripF (c :: t) = if wsp c then stripF t else c :: stripF t := by
  unfold stripF
  by_cases h : wsp c = true <;> simp [h]
theorem sqGo_cons (p : Bool) (c : UInt8) (t : List UInt8) : sqGo p (c :: t) = if wsp c then (if p then sqGo true t else 32 :: sqGo true t) else c :: sqGo false t := rfl
theorem without_loop (s : ByteArray) (l : List UInt8) (hbt : ∀ (i : Nat) (h : i < l.length), bt s (i : Int) = ((l[i]'h).toNat : Int)) (hsz : l.length = s.size) (bl : Bool) (hs : s.size ≤ 268435456) (d : Nat) : ∀ (i : Nat) (acc : List UInt8), i + d = s.size → acc.length ≤ i → ∀ k, d < k →
    redlineref03_without.l0 k s bl (nn acc) i = some ⟨(acc ++ (if bl then sqGo (if h : 0 < i ∧ i ≤ l.length then wsp (l[i - 1]'(by omega)) else false) (l.drop i) else stripF (l.drop i))).toArray⟩ := by
  induction d with
  | zero =>
    intro i acc h1 h2 k hk
    obtain ⟨k, rfl⟩ : ∃ m, k = m + 1 := ⟨k - 1, by omega⟩
    simp only [redlineref03_without.l0]
    rw [if_neg (by omega), strOfNums_nn, List.drop_eq_nil_of_le (by omega)]
    cases bl <;> simp [stripF, sqGo]
  | succ d ih =>
    intro i acc h1 h2 k hk
    obtain ⟨k, rfl⟩ : ∃ m, k = m + 1 := ⟨k - 1, by omega⟩
    have hl : i < l.length := by omega
    have hlen : (nn acc).length < 140737488355328 := by rw [nn_length]; omega
    simp only [redlineref03_without.l0]
    rw [if_pos (by omega), if_pos (by omega), hbt i hl, white_f, Option.bind_some, List.drop_eq_getElem_cons hl, wrap_next i s.size (by omega) (by omega)]
    have hprev : (if h : 0 < i + 1 ∧ i + 1 ≤ l.length then wsp (l[i + 1 - 1]'(by omega)) else false) = wsp l[i] := by
      rw [dif_pos ⟨by omega, by omega⟩]; simp
    have go : ∀ add : List UInt8, add.length ≤ 1 → redlineref03_without.l0 k s bl (nn (acc ++ add)) ((i + 1 : Nat) : Int) = some ⟨(acc ++ add ++ (if bl then sqGo (wsp l[i]) (l.drop (i + 1)) else stripF (l.drop (i + 1)))).toArray⟩ := by
      intro add ha
      rw [ih (i + 1) (acc ++ add) (by omega) (by simp; omega) k (by omega), hprev]
    have g0 := go [] (by simp)
    have g1 := go [l[i]] (by simp)
    have g2 := go [32] (by simp)
    have e2 : nn acc ++ [32] = nn (acc ++ [32]) := nn_snoc acc 32
    rw [← nn_snoc] at g1
    rw [← e2] at g2
    simp only [List.append_nil] at g0
    by_cases hw : wsp l[i] = true
    · rw [if_pos hw]
      cases bl with
      | false =>
        simp only [Bool.false_eq_true, if_false] at g0 ⊢
        rw [g0, stripF_cons, if_pos hw]
      | true =>
        simp only [if_true] at g0 g2 ⊢
        by_cases h0 : i = 0
        · subst h0
          rw [if_pos (by rfl), if_pos hlen, g2, sqGo_cons, if_pos hw, hw]
          simp
        · have hl1 : i - 1 < l.length := by omega
          have ew : wrap64 ((i : Int) - 1) = ((i - 1 : Nat) : Int) := by unfold wrap64; omega
          rw [if_neg (by omega), ew, if_pos (by omega), if_pos (by omega), hbt (i - 1) hl1, white_f, Option.bind_some, dif_pos ⟨by omega, by omega⟩]
          by_cases hp : wsp l[i - 1] = true
          · rw [if_pos hp, g0, hp, sqGo_cons, if_pos hw, if_pos rfl, hw]
          · have hp' : wsp l[i - 1] = false := by simpa using hp
            rw [if_neg hp, if_pos hlen, g2, hp', sqGo_cons, if_pos hw, hw]
            simp
    · have hw' : wsp l[i] = false := by simpa using hw
      rw [if_neg hw, if_pos hlen, g1, sqGo_cons, stripF_cons, if_neg hw, if_neg hw, hw']
      cases bl <;> simp
theorem ref_without (s : ByteArray) (bl : Bool) (hs : s.size ≤ 268435456) (k : Nat) (hk : s.size < k) : redlineref03_without.f k s bl = some ⟨(if bl then sqGo false s.data.toList else stripF s.data.toList).toArray⟩ := by
  have := without_loop s s.data.toList (fun i h => bt_nat s i h) (by simp) bl hs s.size 0 [] (by omega) (by simp) k hk
  simpa [nn, redlineref03_without.f] using this
theorem trail_loop (n : Nat) : ∀ (s : ByteArray), s.size = n → s.size ≤ 268435456 → ∀ k, n < k → redlineref03_trail.l0 k s = some ⟨(trailF s.data.toList).toArray⟩ := by
  induction n with
  | zero =>
    intro s hn hs k hk
    obtain ⟨k, rfl⟩ : ∃ m, k = m + 1 := ⟨k - 1, by omega⟩
    simp only [redlineref03_trail.l0]
    rw [if_neg (by omega)]
    have : s.data.toList = [] := List.eq_nil_of_length_eq_zero (by simpa using hn)
    rw [this, trailF_nil, ← this]
  | succ n ih =>
    intro s hn hs k hk
    obtain ⟨k, rfl⟩ : ∃ m, k = m + 1 := ⟨k - 1, by omega⟩
    have hl : n < s.data.toList.length := by simp; omega
    have ew : wrap64 ((s.size : Int) - 1) = ((n : Nat) : Int) := by unfold wrap64; omega
    simp only [redlineref03_trail.l0]
    rw [if_pos (by omega), ew, if_pos (by omega), if_pos (by omega), bt_nat s n hl, white_f, Option.bind_some]
    have hsp : s.data.toList = s.data.toList.take n ++ [s.data.toList[n]] := by
      rw [← List.take_succ_eq_append_getElem hl, List.take_of_length_le (by simp; omega)]
    have hx : (s.extract 0 n).data.toList = s.data.toList.take n := by simp [List.extract_eq_take_drop]
    generalize s.data.toList[n] = c at *
    have ht : trailF s.data.toList = if wsp c then trailF (s.data.toList.take n) else s.data.toList := by
      conv => lhs; rw [hsp]
      rw [trailF_snoc, ← hsp]
    rw [ht]
    by_cases hw : wsp c = true
    · rw [if_pos hw, if_pos (by omega), if_pos hw, Int.toNat_natCast, ih (s.extract 0 n) (by simp; omega) (by simp; omega) k (by omega), hx]
    · rw [if_neg hw, if_neg hw]
theorem ref_trail (s : ByteArray) (hs : s.size ≤ 268435456) (k : Nat) (hk : s.size < k) : redlineref03_trail.f k s = some ⟨(trailF s.data.toList).toArray⟩ := trail_loop s.size s rfl hs k hk

theorem expand_pad (s : ByteArray) (i : Int) (m : Nat) : ∀ (acc : List UInt8), (8 - acc.length % 8) % 8 = m → acc.length ≤ 4294967296 → ∀ k, redlineref03_Expand.l1 (k + m + 1) s (nn acc) i = redlineref03_Expand.l0 (k) s (nn (acc ++ List.replicate m 32)) (wrap64 (i + 1)) := by
  induction m with
  | zero =>
    intro acc h h2 k
    simp only [redlineref03_Expand.l1]
    rw [if_pos (by rw [nn_length]; omega)]
    simp
  | succ m ih =>
    intro acc h h2 k
    rw [show k + (m + 1) + 1 = (k + m + 1) + 1 by omega, redlineref03_Expand.l1]
    rw [if_neg (by rw [nn_length]; omega), if_pos (by rw [nn_length]; omega)]
    have := ih (acc ++ [32]) (by simp; omega) (by simp; omega) k
    rw [show nn acc ++ [32] = nn (acc ++ [32]) from nn_snoc acc 32, this]
    congr 2
    rw [List.append_assoc, List.singleton_append, ← List.replicate_succ]
theorem expand_loop (s : ByteArray) (l : List UInt8) (hbt : ∀ (i : Nat) (h : i < l.length), bt s (i : Int) = ((l[i]'h).toNat : Int)) (hsz : l.length = s.size) (hs : s.size ≤ 268435456) (d : Nat) : ∀ (i : Nat) (acc : List UInt8), i + d = s.size → acc.length ≤ 8 * i → ∀ k, 10 * d < k →
    redlineref03_Expand.l0 k s (nn acc) i = some ⟨(expandGo acc (l.drop i)).toArray⟩ := by
  induction d with
  | zero =>
    intro i acc h1 h2 k hk
    obtain ⟨k, rfl⟩ : ∃ m, k = m + 1 := ⟨k - 1, by omega⟩
    simp only [redlineref03_Expand.l0]
    rw [if_neg (by omega), strOfNums_nn, List.drop_eq_nil_of_le (by omega)]
    rfl
  | succ d ih =>
    intro i acc h1 h2 k hk
    obtain ⟨k, rfl⟩ : ∃ m, k = m + 1 := ⟨k - 1, by omega⟩
    have hl : i < l.length := by omega
    have hlen : (nn acc).length < 140737488355328 := by rw [nn_length]; omega
    simp only [redlineref03_Expand.l0]
    rw [if_pos (by omega), if_pos (by omega), hbt i hl, List.drop_eq_getElem_cons hl]
    generalize l[i] = c
    by_cases h9 : c = 9
    · subst h9
      rw [if_pos (by rfl), if_pos hlen]
      obtain ⟨m, hm⟩ : ∃ m, (8 - (acc ++ [32]).length % 8) % 8 = m := ⟨_, rfl⟩
      have hm8 : m ≤ 7 := by omega
      obtain ⟨j, rfl⟩ : ∃ j, k = j + m + 1 := ⟨k - m - 1, by omega⟩
      rw [show nn acc ++ [32] = nn (acc ++ [32]) from nn_snoc acc 32, expand_pad s i m (acc ++ [32]) hm (by simp; omega) j, wrap_next i s.size (by omega) (by omega)]
      have e : acc ++ [32] ++ List.replicate m 32 = acc ++ List.replicate (8 - acc.length % 8) 32 := by
        rw [List.append_assoc, List.singleton_append, ← List.replicate_succ]
        congr 2
        simp at hm
        omega
      rw [e, ih (i + 1) _ (by omega) (by simp; omega) j (by omega)]
      simp [expandGo]
    · have h9' : ¬ ((c.toNat : Int) = 9) := fun h => h9 (UInt8.toNat_inj.1 (Int.ofNat_inj.1 h))
      rw [if_neg h9', if_pos hlen, nn_snoc, wrap_next i s.size (by omega) (by omega), ih (i + 1) _ (by omega) (by simp; omega) k (by omega)]
      simp [expandGo, h9]
theorem ref_expand (s : ByteArray) (hs : s.size ≤ 268435456) (k : Nat) (hk : 10 * s.size < k) : redlineref03_Expand.f k s = some ⟨(expandF s.data.toList).toArray⟩ := by
  have := expand_loop s s.data.toList (fun i h => bt_nat s i h) (by simp) hs s.size 0 [] (by omega) (by simp) k hk
  simpa [nn, redlineref03_Expand.f, expandF] using this
theorem ref_bare (s : ByteArray) (hs : s.size ≤ 268435456) : redlineref02_Bare.f s = some (⟨(bareF s.data.toList).toArray⟩, feedB s.data.toList) := by
  unfold redlineref02_Bare.f
  by_cases h0 : s.size = 0
  · rw [if_pos (by omega)]
    have : s.data.toList = [] := List.eq_nil_of_length_eq_zero (by simpa using h0)
    rw [this]
    show some (s, false) = some (⟨#[]⟩, false)
    rw [show s = ⟨#[]⟩ from by apply ByteArray.ext; exact Array.eq_empty_of_size_eq_zero h0]
  · obtain ⟨n, hn⟩ : ∃ n, s.size = n + 1 := ⟨s.size - 1, by omega⟩
    have hl : n < s.data.toList.length := by simp; omega
    have ew : wrap64 ((s.size : Int) - 1) = ((n : Nat) : Int) := by unfold wrap64; omega
    rw [if_neg (by omega), ew, if_pos (by omega), if_pos (by omega), bt_nat s n hl]
    have hsp : s.data.toList = s.data.toList.take n ++ [s.data.toList[n]] := by
      rw [← List.take_succ_eq_append_getElem hl, List.take_of_length_le (by simp; omega)]
    have hx : (s.extract 0 n).data.toList = s.data.toList.take n := by simp [List.extract_eq_take_drop]
    generalize s.data.toList[n] = c at *
    have hf : feedB s.data.toList = (c == 10) := by rw [hsp, feedB_snoc]
    by_cases hc : c = 10
    · subst hc
      rw [if_pos (by rfl), if_pos (by omega), hf, hsp, bareF_ten, Int.toNat_natCast, ← hx]
      rfl
    · have hc' : ¬ ((c.toNat : Int) = 10) := fun h => hc (UInt8.toNat_inj.1 (Int.ofNat_inj.1 h))
      rw [if_neg hc', bareF_no _ (by rw [hf]; simp [hc]), hf]
      simp [hc]
theorem mk_size (l : List UInt8) : (⟨l.toArray⟩ : ByteArray).size = l.length := by simp [ByteArray.size]
theorem ref_text (s : ByteArray) (o : Ign) (hs : s.size ≤ 8388608) (k : Nat) (hk : 10 * s.size + 5 < k) :
    redlineref03_text.f k s o.space o.white o.blank o.case_ o.tabs o.trail = some ⟨(textF o s.data.toList).toArray⟩ := by
  have hl : s.data.toList.length = s.size := by simp
  have h0 : redlineref03_text.f k s o.space o.white o.blank o.case_ o.tabs o.trail = redlineref03_text.j0 k ⟨(st1 o s.data.toList).toArray⟩ o.space o.white o.blank o.case_ o.tabs o.trail := by
    unfold redlineref03_text.f st1
    cases o.tabs with
    | true => simp only [if_true]; rw [ref_expand s (by omega) k (by omega), Option.bind_some]
    | false => simp
  have l1 := stepsF_le o 1 (by omega) s.data.toList
  have l2 := stepsF_le o 2 (by omega) s.data.toList
  have l3 := stepsF_le o 3 (by omega) s.data.toList
  have l4 := stepsF_le o 4 (by omega) s.data.toList
  simp only [stepsF] at l1 l2 l3 l4
  obtain ⟨k, rfl⟩ : ∃ m, k = m + 3 := ⟨k - 3, by omega⟩
  rw [h0]
  have h1 : redlineref03_text.j0 (k + 3) ⟨(st1 o s.data.toList).toArray⟩ o.space o.white o.blank o.case_ o.tabs o.trail = redlineref03_text.j1 (k + 2) ⟨(st2 o s.data.toList).toArray⟩ o.space o.white o.blank o.case_ o.tabs o.trail := by
    rw [redlineref03_text.j0]
    unfold st2
    cases o.white with
    | true => simp only [if_true]; rw [ref_without _ false (by rw [mk_size]; omega) (k + 2) (by rw [mk_size]; omega), Option.bind_some]; rfl
    | false => simp
  have h2 : redlineref03_text.j1 (k + 2) ⟨(st2 o s.data.toList).toArray⟩ o.space o.white o.blank o.case_ o.tabs o.trail = redlineref03_text.j2 (k + 1) ⟨(st3 o s.data.toList).toArray⟩ o.space o.white o.blank o.case_ o.tabs o.trail := by
    rw [redlineref03_text.j1]
    unfold st3
    cases o.space with
    | true =>
      have hq := sqGo_le false (st2 o s.data.toList)
      simp only [if_true]
      rw [ref_without _ true (by rw [mk_size]; omega) (k + 1) (by rw [mk_size]; omega), Option.bind_some]
      simp only [if_true]
      rw [ref_trail _ (by rw [mk_size]; omega) (k + 1) (by rw [mk_size]; omega), Option.bind_some]
      rfl
    | false => simp
  rw [h1, h2, redlineref03_text.j2]
  show _ = some (⟨(st5 o s.data.toList).toArray⟩ : ByteArray)
  unfold st5
  have h4 : (st4 o s.data.toList) = if o.trail then trailF (st3 o s.data.toList) else st3 o s.data.toList := rfl
  cases ht : o.trail with
  | true =>
    rw [ht] at h4
    simp only [if_true] at h4 ⊢
    rw [ref_trail _ (by rw [mk_size]; omega) k (by rw [mk_size]; omega), Option.bind_some]
    rw [show (⟨(st3 o s.data.toList).toArray⟩ : ByteArray).data.toList = st3 o s.data.toList from rfl, ← h4]
    cases o.case_ with
    | true => simp only [if_true]; rw [ref_small _ (by rw [mk_size]; omega) k (by rw [mk_size]; omega)]; rfl
    | false => simp
  | false =>
    rw [ht] at h4
    simp only [Bool.false_eq_true, if_false] at h4 ⊢
    rw [← h4]
    cases o.case_ with
    | true => simp only [if_true]; rw [ref_small _ (by rw [mk_size]; omega) k (by rw [mk_size]; omega)]; rfl
    | false => simp
theorem bareF_le (s : List UInt8) : (bareF s).length ≤ s.length := by unfold bareF; split <;> simp
theorem ref_canon (s : ByteArray) (o : Ign) (hs : s.size ≤ 8388608) (k : Nat) (hk : 10 * s.size + 5 < k) :
    redlineref03_Canon.f k s o.space o.white o.blank o.case_ o.tabs o.trail = some ⟨(canonF o s.data.toList).toArray⟩ := by
  have hb := bareF_le s.data.toList
  have hl : s.data.toList.length = s.size := by simp
  unfold redlineref03_Canon.f canonF
  rw [ref_bare s (by omega), Option.bind_some]
  have ht := ref_text ⟨(bareF s.data.toList).toArray⟩ o (by rw [mk_size]; omega) k (by rw [mk_size]; omega)
  rw [show (⟨(bareF s.data.toList).toArray⟩ : ByteArray).data.toList = bareF s.data.toList from rfl] at ht
  have htl := textF_le o (bareF s.data.toList)
  simp only
  rw [ht, Option.bind_some]
  cases feedB s.data.toList with
  | true => simp only [if_true]; rw [if_pos (by rw [mk_size]; omega)]; exact congrArg some (bs_append _ [10])
  | false => simp
theorem toList_mk (l : List UInt8) : (⟨l.toArray⟩ : ByteArray).toList = l := by rw [ByteArray.toList_eq]
theorem ref_equal (a b : ByteArray) (o : Ign) (ha : a.size ≤ 8388608) (hb : b.size ≤ 8388608) : ∃ k,
    redlineref03_Equal.f k a b o.space o.white o.blank o.case_ o.tabs o.trail = some (equalF o a.data.toList b.data.toList) := by
  refine ⟨10 * a.size + 10 * b.size + 6, ?_⟩
  unfold redlineref03_Equal.f
  rw [ref_canon a o ha _ (by omega), Option.bind_some, ref_canon b o hb _ (by omega), Option.bind_some, toList_mk, toList_mk]
  rfl
end Go.Proofs.YtmjbhjmgecabbaaDoor
