/- The plain side of canon: what a line counts as, over lists of bytes; that counting as the same is an equivalence and that ignoring more parts nothing. No program in this text. -/
import Derived.Lib.FieldsP
import Derived.Lib.MapLaws
namespace Go.Proofs.YtmjbhjmgecabbaaDoor

/-! ### Words -/
def wsp (c : UInt8) : Bool := c == 32 || c == 9 || c == 11 || c == 12 || c == 13
def expandGo (out : List UInt8) : List UInt8 → List UInt8
  | [] => out
  | c :: t => if c == 9 then expandGo (out ++ List.replicate (8 - out.length % 8) 32) t else expandGo (out ++ [c]) t
def expandF (s : List UInt8) : List UInt8 := expandGo [] s
def stripF (s : List UInt8) : List UInt8 := s.filter fun c => !wsp c
def trailF (s : List UInt8) : List UInt8 := (s.reverse.dropWhile wsp).reverse
def sqGo (prev : Bool) : List UInt8 → List UInt8
  | [] => []
  | c :: t => if wsp c then (if prev then sqGo true t else 32 :: sqGo true t) else c :: sqGo false t
def squeezeF (s : List UInt8) : List UInt8 := trailF (sqGo false s)
def lower (c : UInt8) : UInt8 := if 65 ≤ c && c ≤ 90 then c + 32 else c
def smallF (s : List UInt8) : List UInt8 := s.map lower
structure Ign where
  space : Bool
  white : Bool
  blank : Bool
  case_ : Bool
  tabs : Bool
  trail : Bool
def textF (o : Ign) (s : List UInt8) : List UInt8 :=
  let s := if o.tabs then expandF s else s
  let s := if o.white then stripF s else s
  let s := if o.space then squeezeF s else s
  let s := if o.trail then trailF s else s
  if o.case_ then smallF s else s
def feedB (s : List UInt8) : Bool := s.getLast? == some 10
def bareF (s : List UInt8) : List UInt8 := if feedB s then s.dropLast else s
def canonF (o : Ign) (line : List UInt8) : List UInt8 := textF o (bareF line) ++ (if feedB line then [10] else [])
def equalF (o : Ign) (a b : List UInt8) : Bool := canonF o a == canonF o b
def blankF (o : Ign) (a : List UInt8) : Bool := textF o (bareF a) == []

/-! ### Equivalence -/
theorem equalF_refl (o : Ign) (a : List UInt8) : equalF o a a = true := by simp [equalF]
theorem equalF_symm (o : Ign) (a b : List UInt8) : equalF o a b = equalF o b a := by
  unfold equalF; rw [Bool.eq_iff_iff]; simp only [beq_iff_eq]; exact eq_comm
theorem equalF_trans (o : Ign) {a b c : List UInt8} (h : equalF o a b = true) (k : equalF o b c = true) : equalF o a c = true := by
  simp only [equalF, beq_iff_eq] at *; rw [h, k]

/-! ### trail, squeeze, strip -/
theorem snoc_ind {α : Type} {p : List α → Prop} (h0 : p []) (h1 : ∀ l a, p l → p (l ++ [a])) (l : List α) : p l := by
  have : ∀ m : List α, p m.reverse := by
    intro m
    induction m with
    | nil => exact h0
    | cons a m ih => rw [List.reverse_cons]; exact h1 _ _ ih
  have := this l.reverse
  rwa [List.reverse_reverse] at this
theorem u8_all {p : UInt8 → Bool} (h : ∀ n : Fin 256, p (UInt8.ofNat n.val) = true) (c : UInt8) : p c = true := by
  have := h ⟨c.toNat, c.toNat_lt⟩
  simpa using this
theorem wsp_lower (c : UInt8) : wsp (lower c) = wsp c := by
  have := u8_all (p := fun c => wsp (lower c) == wsp c) (by decide +kernel) c
  simpa using this
theorem lower_ten (c : UInt8) : (lower c == 10) = (c == 10) := by
  have := u8_all (p := fun c => (lower c == 10) == (c == 10)) (by decide +kernel) c
  simpa using this
theorem trailF_nil : trailF [] = [] := rfl
theorem trailF_snoc (s : List UInt8) (c : UInt8) : trailF (s ++ [c]) = if wsp c then trailF s else s ++ [c] := by
  unfold trailF
  rw [List.reverse_append]
  simp only [List.reverse_singleton, List.singleton_append, List.dropWhile_cons]
  split <;> simp
theorem trailF_small (s : List UInt8) : trailF (smallF s) = smallF (trailF s) := by
  induction s using snoc_ind with
  | h0 => rfl
  | h1 s c ih =>
    rw [trailF_snoc, show smallF (s ++ [c]) = smallF s ++ [lower c] by simp [smallF], trailF_snoc, wsp_lower]
    split
    · exact ih
    · simp [smallF]
theorem trailF_ten (s : List UInt8) : trailF (s ++ [10]) = s ++ [10] := by rw [trailF_snoc]; rfl
theorem trailF_trail (s : List UInt8) : trailF (trailF s) = trailF s := by
  induction s using snoc_ind with
  | h0 => rfl
  | h1 s c ih =>
    rw [trailF_snoc]
    split
    · exact ih
    · rename_i h; rw [trailF_snoc, if_neg h]
theorem sqGo_snoc (p : Bool) (s : List UInt8) (c : UInt8) : sqGo p (s ++ [c]) = sqGo p s ++ (if wsp c then (if (if s = [] then p else wsp (s.getLastD 0)) then [] else [32]) else [c]) := by
  induction s generalizing p with
  | nil => simp [sqGo]
  | cons d t ih =>
    simp only [List.cons_append, sqGo]
    have e : (if t = [] then wsp d else wsp (t.getLastD 0)) = wsp ((d :: t).getLastD 0) := by
      cases t with
      | nil => rfl
      | cons e t => simp [List.getLastD]
    by_cases hd : wsp d = true
    · have e' : (if t = [] then true else wsp (t.getLastD 0)) = wsp ((d :: t).getLastD 0) := by rw [← e, hd]
      simp only [hd, if_true, ih, e', reduceCtorEq, if_false]
      cases p <;> simp
    · have hd' : wsp d = false := by simpa using hd
      have e' : (if t = [] then false else wsp (t.getLastD 0)) = wsp ((d :: t).getLastD 0) := by rw [← e, hd']
      simp only [hd', ih, e', reduceCtorEq, if_false, Bool.false_eq_true, List.cons_append]
theorem sqGo_small (p : Bool) (s : List UInt8) : sqGo p (smallF s) = smallF (sqGo p s) := by
  induction s generalizing p with
  | nil => rfl
  | cons c t ih =>
    have h32 : lower 32 = 32 := by decide
    simp only [smallF, List.map_cons, sqGo, wsp_lower] at *
    split
    · split
      · exact ih _
      · simp [ih, h32]
    · simp [ih]
theorem trailF_eq_iff (s : List UInt8) : trailF s = s ↔ (s = [] ∨ wsp (s.getLastD 0) = false) := by
  induction s using snoc_ind with
  | h0 => simp [trailF_nil]
  | h1 s c _ =>
    rw [trailF_snoc]
    by_cases h : wsp c = true
    · simp only [h, if_true]
      constructor
      · intro e
        have := congrArg List.length e
        have l : (trailF s).length ≤ s.length := by
          unfold trailF; rw [List.length_reverse]; exact Nat.le_trans (List.dropWhile_suffix _).length_le (by simp)
        simp at this; omega
      · intro e; simp [h] at e
    · simp [h]
theorem sqGo_last (p : Bool) (s : List UInt8) (h : trailF s = s) : trailF (sqGo p s) = sqGo p s := by
  induction s using snoc_ind with
  | h0 => rfl
  | h1 s c _ =>
    rw [trailF_eq_iff] at h
    have hc : wsp c = false := by simpa using h
    rw [sqGo_snoc, hc]
    simp only [Bool.false_eq_true, if_false]
    rw [trailF_snoc, hc]; simp
theorem squeezeF_trail (s : List UInt8) : squeezeF (trailF s) = squeezeF s := by
  induction s using snoc_ind with
  | h0 => rfl
  | h1 s c ih =>
    rw [trailF_snoc]
    by_cases h : wsp c = true
    · simp only [h, if_true]
      rw [ih]
      unfold squeezeF
      rw [sqGo_snoc, h]
      simp only [if_true]
      by_cases e : s = []
      · subst e; rfl
      · simp only [e, if_false]
        split
        · simp
        · rw [trailF_snoc]; rfl
    · simp [h]
theorem stripF_small (s : List UInt8) : stripF (smallF s) = smallF (stripF s) := by
  unfold stripF smallF
  induction s with
  | nil => rfl
  | cons c t ih =>
    simp only [List.map_cons, List.filter_cons, wsp_lower]
    split <;> simp [ih]
theorem stripF_trail (s : List UInt8) : stripF (trailF s) = stripF s := by
  induction s using snoc_ind with
  | h0 => rfl
  | h1 s c ih =>
    rw [trailF_snoc]
    by_cases h : wsp c = true
    · simp only [h, if_true]; rw [ih]; simp [stripF, h]
    · simp [h]
theorem stripF_sq (p : Bool) (s : List UInt8) : stripF (sqGo p s) = stripF s := by
  induction s generalizing p with
  | nil => rfl
  | cons c t ih =>
    have h32 : wsp 32 = true := by decide
    unfold stripF at *
    simp only [sqGo]
    by_cases h : wsp c = true
    · simp only [h, if_true]
      cases p <;> simp [h, h32, ih]
    · simp [h, ih]
theorem stripF_squeeze (s : List UInt8) : stripF (squeezeF s) = stripF s := by unfold squeezeF; rw [stripF_trail, stripF_sq]
theorem squeezeF_small (s : List UInt8) : squeezeF (smallF s) = smallF (squeezeF s) := by unfold squeezeF; rw [sqGo_small, trailF_small]
theorem squeezeF_ten (s : List UInt8) (h : trailF s = s) : squeezeF (s ++ [10]) = squeezeF s ++ [10] := by
  unfold squeezeF
  rw [sqGo_snoc, show wsp 10 = false from rfl]
  simp only [Bool.false_eq_true, if_false]
  rw [trailF_ten, sqGo_last _ _ h]

/-! ### the line feed -/
theorem feedB_snoc (s : List UInt8) (c : UInt8) : feedB (s ++ [c]) = (c == 10) := by simp [feedB]
theorem feedB_nil : feedB [] = false := rfl
theorem feedB_small (s : List UInt8) : feedB (smallF s) = feedB s := by
  induction s using snoc_ind with
  | h0 => rfl
  | h1 s c _ => rw [show smallF (s ++ [c]) = smallF s ++ [lower c] by simp [smallF], feedB_snoc, feedB_snoc, lower_ten]
theorem expandGo_last (s out : List UInt8) (c : UInt8) : feedB (expandGo out (s ++ [c])) = (c == 10) := by
  induction s generalizing out with
  | nil =>
    simp only [List.nil_append, expandGo]
    split
    · rename_i h
      have : c = 9 := by simpa using h
      subst this
      obtain ⟨k, hk⟩ : ∃ k, 8 - out.length % 8 = k + 1 := ⟨7 - out.length % 8, by omega⟩
      rw [hk, List.replicate_succ', ← List.append_assoc, feedB_snoc]; rfl
    · rw [feedB_snoc]
  | cons d t ih =>
    simp only [List.cons_append, expandGo]
    split <;> exact ih _
theorem feedB_expand (s : List UInt8) : feedB (expandF s) = feedB s := by
  induction s using snoc_ind with
  | h0 => rfl
  | h1 s c _ => rw [feedB_snoc]; exact expandGo_last _ _ _
theorem bareF_feed (s : List UInt8) : feedB (bareF s) = true → feedB s = true := by
  unfold bareF
  split
  · intro _; assumption
  · exact id
theorem bareF_no (s : List UInt8) (h : feedB s = false) : bareF s = s := by simp [bareF, h]
theorem bareF_ten (s : List UInt8) : bareF (s ++ [10]) = s := by simp [bareF, feedB]

/-! ### ignoring more -/
/-- Ahead of the case: what is left of a line's text, at the steps 0 to 3. -/
def bodyF (k : Nat) (t : List UInt8) : List UInt8 := if k = 1 then trailF t else if k = 2 then squeezeF t else if k = 3 then stripF t else t
def caseF (b : Bool) (s : List UInt8) : List UInt8 := if b then smallF s else s
def tabF (b : Bool) (s : List UInt8) : List UInt8 := if b then expandF s else s
def tailF (s : List UInt8) : List UInt8 := if feedB s then [10] else []
def canonK (tabs c : Bool) (k : Nat) (x : List UInt8) : List UInt8 := caseF c (bodyF k (tabF tabs (bareF x))) ++ tailF x
def step (k : Nat) (s : List UInt8) : List UInt8 := if k = 0 then trailF (bareF s) ++ tailF s else if k = 1 then squeezeF s else stripF s
theorem caseF_append (c : Bool) (a b : List UInt8) : caseF c (a ++ b) = caseF c a ++ caseF c b := by cases c <;> simp [caseF, smallF]
theorem feedB_case (c : Bool) (s : List UInt8) : feedB (caseF c s) = feedB s := by cases c <;> simp [caseF, feedB_small]
theorem feedB_tab (c : Bool) (s : List UInt8) : feedB (tabF c s) = feedB s := by cases c <;> simp [tabF, feedB_expand]
theorem case_trail (c : Bool) (s : List UInt8) : trailF (caseF c s) = caseF c (trailF s) := by cases c <;> simp [caseF, trailF_small]
theorem case_squeeze (c : Bool) (s : List UInt8) : squeezeF (caseF c s) = caseF c (squeezeF s) := by cases c <;> simp [caseF, squeezeF_small]
theorem case_strip (c : Bool) (s : List UInt8) : stripF (caseF c s) = caseF c (stripF s) := by cases c <;> simp [caseF, stripF_small]
theorem canonK_zero (tabs c : Bool) (x : List UInt8) : step 0 (canonK tabs c 0 x) = canonK tabs c 1 x := by
  unfold canonK step bodyF tailF
  cases hx : feedB x with
  | true => simp [bareF_ten, feedB_snoc, case_trail]
  | false =>
    have : feedB (caseF c (tabF tabs (bareF x))) = false := by rw [feedB_case, feedB_tab, bareF_no x hx, hx]
    simp [this, bareF_no _ this, case_trail]
theorem canonK_one (tabs c : Bool) (x : List UInt8) : step 1 (canonK tabs c 1 x) = canonK tabs c 2 x := by
  unfold canonK step bodyF tailF
  cases hx : feedB x with
  | true =>
    simp only [if_true, Nat.one_ne_zero, if_false, Nat.reduceEqDiff]
    rw [squeezeF_ten _ (by rw [case_trail, trailF_trail]), case_squeeze, squeezeF_trail]
  | false => simp [case_squeeze, squeezeF_trail]
theorem canonK_two (tabs c : Bool) (x : List UInt8) : step 2 (canonK tabs c 2 x) = canonK tabs c 3 x := by
  unfold canonK step bodyF tailF
  cases hx : feedB x with
  | true =>
    simp only [if_true, Nat.reduceEqDiff, if_false, reduceCtorEq]
    rw [show ∀ a b, stripF (a ++ b) = stripF a ++ stripF b by intro a b; simp [stripF], case_strip, stripF_squeeze]; rfl
  | false => simp [case_strip, stripF_squeeze]
theorem canonK_case (tabs c : Bool) (k : Nat) (x : List UInt8) : smallF (canonK tabs c k x) = canonK tabs true k x := by
  have ht : smallF (tailF x) = tailF x := by unfold tailF; split <;> rfl
  have hs : ∀ s, smallF (smallF s) = smallF s := by
    intro s; unfold smallF; rw [List.map_map]; congr 1
    funext d
    have := u8_all (p := fun c => lower (lower c) == lower c) (by decide +kernel) d
    simpa using this
  unfold canonK
  rw [show ∀ a b, smallF (a ++ b) = smallF a ++ smallF b by intro a b; simp [smallF], ht]
  cases c <;> simp [caseF, hs]
theorem canonK_more (tabs c : Bool) (k : Nat) (hk : k < 3) (a b : List UInt8) (h : canonK tabs c k a = canonK tabs c k b) : canonK tabs c (k + 1) a = canonK tabs c (k + 1) b := by
  have h' := congrArg (step k) h
  match k, hk with
  | 0, _ => rwa [canonK_zero, canonK_zero] at h'
  | 1, _ => rwa [canonK_one, canonK_one] at h'
  | 2, _ => rwa [canonK_two, canonK_two] at h'
theorem canonK_small (tabs c : Bool) (k : Nat) (a b : List UInt8) (h : canonK tabs c k a = canonK tabs c k b) : canonK tabs true k a = canonK tabs true k b := by
  have h' := congrArg smallF h
  rwa [canonK_case, canonK_case] at h'
theorem canonF_K (o : Ign) (k : Nat) (c : Bool) (x : List UInt8) (hk : k < 4) :
    canonF { o with trail := k == 1, space := k == 2, white := k == 3, case_ := c } x = canonK o.tabs c k x := by
  unfold canonF canonK textF caseF bodyF tabF tailF
  match k, hk with
  | 0, _ => simp
  | 1, _ => simp
  | 2, _ => simp
  | 3, _ => simp

/-! ### the pieces between white space -/
def piecesB (p : UInt8 → Bool) : List UInt8 → List UInt8 → List (List UInt8)
  | cur, [] => if cur = [] then [] else [cur]
  | cur, c :: t => if p c then (if cur = [] then piecesB p [] t else cur :: piecesB p [] t) else piecesB p (cur ++ [c]) t
theorem pieces_strip (cur s : List UInt8) (hc : stripF cur = cur) : (piecesB wsp cur s).flatten = cur ++ stripF s := by
  induction s generalizing cur with
  | nil => unfold piecesB; split <;> simp_all [stripF]
  | cons c t ih =>
    unfold piecesB
    by_cases h : wsp c = true
    · simp only [h, if_true]
      split
      · rename_i e; rw [ih [] rfl]; simp [e, stripF, h]
      · rw [List.flatten_cons, ih [] rfl]; simp [stripF, h]
    · have h' : wsp c = false := by simpa using h
      simp only [h', Bool.false_eq_true, if_false]
      rw [ih (cur ++ [c]) (by unfold stripF at hc ⊢; rw [List.filter_append, hc]; simp [h'])]; simp [stripF, h']
theorem trailF_cons (a : UInt8) (u : List UInt8) : trailF (a :: u) = if trailF u = [] then (if wsp a then [] else [a]) else a :: trailF u := by
  induction u using snoc_ind with
  | h0 => show trailF ([] ++ [a]) = _; rw [trailF_snoc]; simp [trailF_nil]
  | h1 u c ih =>
    rw [← List.cons_append, trailF_snoc, trailF_snoc]
    split
    · exact ih
    · simp
def joinB : List (List UInt8) → List UInt8
  | [] => []
  | [x] => x
  | x :: y :: t => x ++ 32 :: joinB (y :: t)
theorem joinB_cons (x : List UInt8) (L : List (List UInt8)) : joinB (x :: L) = if L = [] then x else x ++ 32 :: joinB L := by
  cases L <;> simp [joinB]
theorem joinB_nil (L : List (List UInt8)) (h : ∀ x ∈ L, x ≠ []) : joinB L = [] ↔ L = [] := by
  cases L with
  | nil => simp [joinB]
  | cons x L =>
    have := h x (by simp)
    rw [joinB_cons]
    split <;> simp [this]
theorem piecesB_ne (p : UInt8 → Bool) (cur s : List UInt8) : ∀ x ∈ piecesB p cur s, x ≠ [] := by
  induction s generalizing cur with
  | nil => unfold piecesB; split <;> simp_all
  | cons c t ih =>
    unfold piecesB
    split
    · split
      · exact ih []
      · intro x hx
        rcases List.mem_cons.1 hx with rfl | hx
        · assumption
        · exact ih [] x hx
    · exact ih _
theorem pieces_join (s cur : List UInt8) : joinB (piecesB wsp cur s) = if cur = [] then trailF (sqGo true s) else cur ++ trailF (sqGo false s) := by
  induction s generalizing cur with
  | nil => unfold piecesB; split <;> simp_all [joinB, sqGo, trailF_nil]
  | cons c t ih =>
    unfold piecesB
    simp only [sqGo]
    by_cases h : wsp c = true
    · simp only [h, if_true, Bool.false_eq_true, if_false]
      by_cases e : cur = []
      · simp only [e, if_true]; rw [ih]; simp
      · simp only [e, if_false]
        rw [joinB_cons, ih, trailF_cons]
        have hn := joinB_nil _ (piecesB_ne wsp [] t)
        rw [ih] at hn
        simp only [if_true] at hn ⊢
        by_cases z : piecesB wsp [] t = []
        · rw [if_pos z, if_pos (hn.2 z)]; simp [show wsp 32 = true from rfl]
        · rw [if_neg z, if_neg (fun k => z (hn.1 k))]
    · have h' : wsp c = false := by simpa using h
      simp only [h', Bool.false_eq_true, if_false]
      have q : trailF (c :: sqGo false t) = c :: trailF (sqGo false t) := by
        rw [trailF_cons, h']
        by_cases z : trailF (sqGo false t) = [] <;> simp [z]
      rw [ih, q]
      simp only [List.append_eq_nil_iff, reduceCtorEq, and_false, if_false]
      split <;> simp_all
theorem squeeze_join (s : List UInt8) : squeezeF s = if (s.head?.any wsp && !(joinB (piecesB wsp [] s)).isEmpty) then 32 :: joinB (piecesB wsp [] s) else joinB (piecesB wsp [] s) := by
  rw [pieces_join]
  unfold squeezeF
  cases s with
  | nil => rfl
  | cons c t =>
    by_cases h : wsp c = true
    · simp only [sqGo, h, if_true, Bool.false_eq_true, if_false, List.head?_cons, Option.any_some, Bool.true_and]
      rw [trailF_cons]
      by_cases z : trailF (sqGo true t) = [] <;> simp [z, show wsp 32 = true from rfl]
    · have h' : wsp c = false := by simpa using h
      simp [sqGo, h']
theorem strip_join (s : List UInt8) : stripF s = (piecesB wsp [] s).flatten := by rw [pieces_strip [] s rfl]; rfl
end Go.Proofs.YtmjbhjmgecabbaaDoor
