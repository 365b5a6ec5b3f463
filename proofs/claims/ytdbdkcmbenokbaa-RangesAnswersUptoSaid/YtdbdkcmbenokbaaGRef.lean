/- Ranges: the plain law of the reference: its list of the unlike entries, its ids of a range, its count. No Go here. -/
import Derived.Test.YtdbdkcmbenokbaaGSame
import Derived.Test.YtdbdkcmbenokbaaPAllx5
import Derived.Test.YtdbdkcmbenokbaaPAllx6
namespace Go.Proofs.Ytdbdkcmbenokbaa.G
open Go.RowKit Go.Lib Go.Proofs.YtdbdkcmbenokbaaW.PrintWords Go.Proofs.YtdbdkcmbenokbaaW.PrintMore Go.Proofs.Ytdbdkcmbenokbaa.PAll
open Go.Sort hiding rd
set_option linter.unusedVariables false

/-! ### the insertion: generic over a strict order -/
section
variable {α : Type} [DecidableEq α]
/-- An element put in its place; one that stands there already is left. -/
def ins (lt : α → α → Bool) (x : α) : List α → List α
  | [] => [x]
  | y :: r => if y = x then y :: r else if lt x y then x :: y :: r else y :: ins lt x r
theorem mem_ins (lt : α → α → Bool) (x z : α) (l : List α) : z ∈ ins lt x l ↔ z = x ∨ z ∈ l := by
  induction l with
  | nil => simp [ins]
  | cons y r ih =>
    unfold ins
    split
    · next h => subst h; simp
    · split
      · simp
      · simp only [List.mem_cons, ih]
        constructor
        · rintro (h | h | h)
          · exact .inr (.inl h)
          · exact .inl h
          · exact .inr (.inr h)
        · rintro (h | h | h)
          · exact .inr (.inl h)
          · exact .inl h
          · exact .inr (.inr h)
theorem ins_le (lt : α → α → Bool) (x : α) (l : List α) : (ins lt x l).length ≤ l.length + 1 := by
  induction l with
  | nil => simp [ins]
  | cons y r ih =>
    unfold ins
    split
    · simp
    · split
      · simp
      · simp only [List.length_cons]; omega
theorem ins_rise (lt : α → α → Bool) (tr : ∀ x y z, lt x y = true → lt y z = true → lt x z = true) (tri : ∀ x y, lt x y = false → x ≠ y → lt y x = true) (x : α) (l : List α) (h : l.Pairwise fun a b => lt a b = true) : (ins lt x l).Pairwise fun a b => lt a b = true := by
  induction l with
  | nil => simp [ins]
  | cons y r ih =>
    rw [List.pairwise_cons] at h
    unfold ins
    split
    · exact List.pairwise_cons.2 h
    · next hne =>
      split
      · next hlt =>
        rw [List.pairwise_cons, List.pairwise_cons]
        refine ⟨fun z hz => ?_, h⟩
        rcases List.mem_cons.1 hz with rfl | hz
        · exact hlt
        · exact tr _ _ _ hlt (h.1 z hz)
      · next hlt =>
        rw [List.pairwise_cons]
        refine ⟨fun z hz => ?_, ih h.2⟩
        rcases (mem_ins lt x z r).1 hz with rfl | hz
        · exact tri _ _ (by simpa using hlt) (fun e => hne e.symm)
        · exact h.1 z hz
theorem fold_rise (lt : α → α → Bool) (tr : ∀ x y z, lt x y = true → lt y z = true → lt x z = true) (tri : ∀ x y, lt x y = false → x ≠ y → lt y x = true) (l : List α) : ∀ o : List α, (o.Pairwise fun a b => lt a b = true) → (l.foldl (fun o x => ins lt x o) o).Pairwise fun a b => lt a b = true := by
  induction l with
  | nil => exact fun o h => h
  | cons x r ih => exact fun o h => ih _ (ins_rise lt tr tri x o h)
theorem mem_fold (lt : α → α → Bool) (z : α) (l : List α) : ∀ o : List α, z ∈ l.foldl (fun o x => ins lt x o) o ↔ z ∈ o ∨ z ∈ l := by
  induction l with
  | nil => simp
  | cons x r ih =>
    intro o
    rw [List.foldl_cons, ih, mem_ins]
    simp only [List.mem_cons]
    constructor
    · rintro ((h | h) | h)
      · exact .inr (.inl h)
      · exact .inl h
      · exact .inr (.inr h)
    · rintro (h | h | h)
      · exact .inl (.inr h)
      · exact .inl (.inl h)
      · exact .inr h
/-- The loop over what lies there: p: has x found its place? -/
def go (lt : α → α → Bool) (x : α) : List α → Bool → List α
  | [], p => if p then [] else [x]
  | y :: r, p => if p then y :: go lt x r true else if y = x then y :: go lt x r true else if lt x y then x :: y :: go lt x r true else y :: go lt x r false
theorem go_true (lt : α → α → Bool) (x : α) (l : List α) : go lt x l true = l := by
  induction l with
  | nil => rfl
  | cons y r ih => simp [go, ih]
theorem go_ins (lt : α → α → Bool) (x : α) (l : List α) : go lt x l false = ins lt x l := by
  induction l with
  | nil => rfl
  | cons y r ih => simp [go, ins, go_true, ih]
end
def ltB (x y : En) : Bool := decide (ltE x y)
def ltI (x y : Int) : Bool := decide (x < y)
theorem ltB_tr (x y z : En) (h1 : ltB x y = true) (h2 : ltB y z = true) : ltB x z = true := by unfold ltB at *; exact decide_eq_true (ltE_trans (of_decide_eq_true h1) (of_decide_eq_true h2))
theorem ltB_tri (x y : En) (h : ltB x y = false) (hne : x ≠ y) : ltB y x = true := by
  unfold ltB at *
  rcases ltE_tri x y with h1 | h1 | h1
  · exact absurd h1 (of_decide_eq_false h)
  · exact absurd h1 hne
  · exact decide_eq_true h1
theorem ltI_tr (x y z : Int) (h1 : ltI x y = true) (h2 : ltI y z = true) : ltI x z = true := by simp [ltI] at *; omega
theorem ltI_tri (x y : Int) (h : ltI x y = false) (hne : x ≠ y) : ltI y x = true := by simp [ltI] at *; omega
def refB (l : List En) : List En := l.foldl (fun o x => ins ltB x o) []
theorem refB_norm (l : List En) : refB l = norm l := by
  refine (norm_eq ?_ fun x => ?_).symm
  · exact (fold_rise ltB ltB_tr ltB_tri l [] List.Pairwise.nil).imp fun h => of_decide_eq_true h
  · unfold refB; rw [mem_fold]; simp
def refI (l : List Int) : List Int := l.foldl (fun o x => ins ltI x o) []
theorem refI_union (l : List Int) : refI l = unionL l := by
  apply H.rising_ext
  · exact (fold_rise ltI ltI_tr ltI_tri l [] List.Pairwise.nil).imp fun h => of_decide_eq_true h
  · exact union_rising l
  · intro x; unfold refI; rw [mem_fold, mem_unionL]; simp

/-! ### the printed functions -/
abbrev SE := S32
theorem less_some (x y : En) : lodestarref13_less.f (ofP x).f0 (ofP x).f1 (ofP y).f0 (ofP y).f1 = some (ltB x y) := by
  show (if x.1 < y.1 then some true else if x.1 = y.1 then some (decide (x.2 < y.2)) else some false) = some (ltB x y)
  by_cases h : x.1 < y.1
  · rw [if_pos h]
    exact congrArg some (decide_eq_true (p := ltE x y) (Or.inl h)).symm
  · rw [if_neg h]
    by_cases h2 : x.1 = y.1
    · rw [if_pos h2]
      by_cases h3 : x.2 < y.2
      · rw [decide_eq_true h3]; exact congrArg some (decide_eq_true (p := ltE x y) (Or.inr ⟨h2, h3⟩)).symm
      · rw [decide_eq_false h3]; exact congrArg some (decide_eq_false (p := ltE x y) (fun e => by unfold ltE at e; omega)).symm
    · rw [if_neg h2]; exact congrArg some (decide_eq_false (p := ltE x y) (fun e => by unfold ltE at e; omega)).symm
theorem rdP (O : List En) (j : Nat) (h : j < O.length) : rd_T32 (O.map ofP) (j : Int) = ofP O[j] := by
  rw [rdT_nat, List.getElem?_map, List.getElem?_eq_getElem h]; rfl
theorem snocP (nx : List En) (y : En) : nx.map ofP ++ [(⟨(ofP y).f0, (ofP y).f1⟩ : SE)] = (nx ++ [y]).map ofP := by rw [List.map_append]; rfl
theorem eqP (y x : En) : ((((ofP y).f0) == ((ofP x).f0)) && (((ofP y).f1) == ((ofP x).f1))) = decide (y = x) := by
  obtain ⟨y1, y2⟩ := y
  obtain ⟨x1, x2⟩ := x
  show ((y1 == x1) && (y2 == x2)) = _
  rw [Bool.eq_iff_iff]
  simp
theorem b_l1 (X O : List En) (i : Nat) (hi : i < X.length) (hX : X.length ≤ 4194304) (hO : O.length ≤ 4194304) (d : Nat) : ∀ (k j : Nat) (nx : List En) (p : Bool), O.length - j = d → j ≤ O.length → nx.length ≤ 2 * j + 1 →
    lodestarref13_Build.l1 (k + d + 1) (X.map ofP) (O.map ofP) (i : Int) (nx.map ofP) p (j : Int) = lodestarref13_Build.l0 k (X.map ofP) ((nx ++ go ltB X[i] (O.drop j) p).map ofP) ((i + 1 : Nat) : Int) := by
  have hxi := rdP X i hi
  have ei : wrap64 ((i : Int) + 1) = ((i + 1 : Nat) : Int) := by rw [wrap_in (by omega) (by omega)]; omega
  induction d with
  | zero =>
    intro k j nx p hd hj hn
    rw [List.drop_eq_nil_of_le (by omega)]
    simp only [lodestarref13_Build.l1, List.length_map, hxi, ei]
    rw [if_neg (by omega)]
    cases p with
    | true => rw [if_pos rfl]; simp [go]
    | false =>
      rw [if_neg (by simp), if_pos (by omega), if_pos (by omega), if_pos (by omega), snocP]
      rfl
  | succ d ih =>
    intro k j nx p hd hj hn
    have hjl : j < O.length := by omega
    have hyj := rdP O j hjl
    have e1 : wrap64 ((j : Int) + 1) = ((j + 1 : Nat) : Int) := by rw [wrap_in (by omega) (by omega)]; omega
    rw [show k + (d + 1) + 1 = (k + d + 1) + 1 by omega, List.drop_eq_getElem_cons hjl]
    replace ih := ih k
    generalize k + d + 1 = mm at ih ⊢
    generalize hx : X[i] = x at *
    generalize hy : O[j] = y at *
    simp only [lodestarref13_Build.l1, List.length_map, hxi, hyj, e1, eqP, less_some, Option.bind_some, snocP, ei]
    rw [if_pos (by omega)]
    have step : ∀ (nx' : List En) (p' : Bool), nx'.length ≤ 2 * (j + 1) + 1 → lodestarref13_Build.l1 mm (X.map ofP) (O.map ofP) (i : Int) (nx'.map ofP) p' ((j + 1 : Nat) : Int) = lodestarref13_Build.l0 k (X.map ofP) ((nx' ++ go ltB x (O.drop (j + 1)) p').map ofP) ((i + 1 : Nat) : Int) := fun nx' p' h => by
      exact ih (j + 1) nx' p' (by omega) (by omega) h
    cases p with
    | true =>
      rw [if_pos rfl, if_pos (by omega), if_pos (by omega), step _ _ (by simp; omega)]
      simp [go]
    | false =>
      rw [if_neg (by simp), if_pos (by omega), if_pos (by omega), if_pos (by omega)]
      by_cases c : y = x
      · rw [if_pos (decide_eq_true c), if_pos (by omega), decide_eq_true c, step _ _ (by simp; omega)]
        simp [go, c]
      · rw [if_neg (by simp [c]), decide_eq_false c]
        by_cases c2 : ltB x y = true
        · rw [if_pos c2, if_pos (by omega), if_pos (by simp; omega), step _ _ (by simp; omega)]
          simp [go, c, c2]
        · rw [if_neg c2, if_pos (by omega), step _ _ (by simp; omega)]
          simp [go, c, c2]
theorem b_l0 (X : List En) (hX : X.length ≤ 1048576) (d : Nat) : ∀ (i : Nat) (O : List En), X.length - i = d → i ≤ X.length → O.length ≤ i → ∃ k, lodestarref13_Build.l0 k (X.map ofP) (O.map ofP) (i : Int) = some (((X.drop i).foldl (fun o x => ins ltB x o) O).map ofP) := by
  induction d with
  | zero =>
    intro i O hd hi hO
    refine ⟨1, ?_⟩
    simp only [lodestarref13_Build.l0, List.length_map]
    rw [if_neg (by omega), List.drop_eq_nil_of_le (by omega)]
    rfl
  | succ d ih =>
    intro i O hd hi hO
    have hil : i < X.length := by omega
    obtain ⟨k, hk⟩ := ih (i + 1) (ins ltB X[i] O) (by omega) (by omega) (by have := ins_le ltB X[i] O; omega)
    refine ⟨k + O.length + 1 + 1, ?_⟩
    simp only [lodestarref13_Build.l0, List.length_map]
    rw [if_pos (by omega)]
    have := b_l1 X O i hil (by omega) (by omega) O.length k 0 [] false (by omega) (by omega) (by simp)
    rw [List.map_nil, List.nil_append, List.drop_zero, go_ins] at this
    rw [show ((0 : Int)) = ((0 : Nat) : Int) from rfl, this, hk, List.drop_eq_getElem_cons hil]
    rfl
theorem build_ev (l : List SE) (hl : l.length ≤ 1048576) : ∃ k, lodestarref13_Build.f k l = some ((norm (l.map toP)).map ofP) := by
  obtain ⟨k, hk⟩ := b_l0 (l.map toP) (by simpa using hl) (l.map toP).length 0 [] (by omega) (by omega) (by simp)
  refine ⟨k, ?_⟩
  rw [map_ofP_toP, List.drop_zero] at hk
  unfold lodestarref13_Build.f
  rw [← refB_norm]
  exact hk

theorem i_l1 (X : List En) (lo hi : Int) (O : List Int) (i : Nat) (hi' : i < X.length) (hX : X.length ≤ 4194304) (hO : O.length ≤ 4194304) (d : Nat) : ∀ (k j : Nat) (nx : List Int) (p : Bool), O.length - j = d → j ≤ O.length → nx.length ≤ 2 * j + 1 →
    lodestarref13_Between.l1 (k + d + 1) (X.map ofP) lo hi O (i : Int) nx p (j : Int) = lodestarref13_Between.l0 k (X.map ofP) lo hi (nx ++ go ltI X[i].2 (O.drop j) p) ((i + 1 : Nat) : Int) := by
  have hxi := rdP X i hi'
  have ei : wrap64 ((i : Int) + 1) = ((i + 1 : Nat) : Int) := by rw [wrap_in (by omega) (by omega)]; omega
  have ex : (ofP X[i]).f1 = X[i].2 := rfl
  induction d with
  | zero =>
    intro k j nx p hd hj hn
    rw [List.drop_eq_nil_of_le (by omega)]
    simp only [lodestarref13_Between.l1, List.length_map, hxi, ei, ex]
    rw [if_neg (by omega)]
    cases p with
    | true => rw [if_pos rfl]; simp [go]
    | false =>
      rw [if_neg (by simp), if_pos (by omega), if_pos (by omega), if_pos (by omega)]
      rfl
  | succ d ih =>
    intro k j nx p hd hj hn
    have hjl : j < O.length := by omega
    have hyj : rd O (j : Int) = O[j] := by rw [rd_nat, List.getElem?_eq_getElem hjl]; rfl
    have e1 : wrap64 ((j : Int) + 1) = ((j + 1 : Nat) : Int) := by rw [wrap_in (by omega) (by omega)]; omega
    rw [show k + (d + 1) + 1 = (k + d + 1) + 1 by omega, List.drop_eq_getElem_cons hjl]
    replace ih := ih k
    generalize k + d + 1 = mm at ih ⊢
    simp only [lodestarref13_Between.l1, List.length_map, hxi, hyj, e1, ex, Option.bind_some, ei]
    generalize X[i].2 = x at *
    generalize O[j] = y at *
    rw [if_pos (by omega)]
    have step : ∀ (nx' : List Int) (p' : Bool), nx'.length ≤ 2 * (j + 1) + 1 → lodestarref13_Between.l1 mm (X.map ofP) lo hi O (i : Int) nx' p' ((j + 1 : Nat) : Int) = lodestarref13_Between.l0 k (X.map ofP) lo hi (nx' ++ go ltI x (O.drop (j + 1)) p') ((i + 1 : Nat) : Int) := fun nx' p' h => ih (j + 1) nx' p' (by omega) (by omega) h
    cases p with
    | true =>
      rw [if_pos rfl, if_pos (by omega), if_pos (by omega), step _ _ (by simp; omega)]
      simp [go]
    | false =>
      rw [if_neg (by simp), if_pos (by omega), if_pos (by omega), if_pos (by omega)]
      by_cases c : y = x
      · rw [if_pos c, if_pos (by omega), step _ _ (by simp; omega)]
        simp [go, c]
      · rw [if_neg c]
        by_cases c2 : x < y
        · rw [if_pos c2, if_pos (by omega), if_pos (by simp; omega), step _ _ (by simp; omega)]
          simp [go, c, ltI, c2]
        · rw [if_neg c2, if_pos (by omega), step _ _ (by simp; omega)]
          have cb : (y == x) = false := beq_eq_false_iff_ne.2 c
          simp [go, c, ltI, c2, cb]
theorem i_l0 (X : List En) (lo hi : Int) (hX : X.length ≤ 1048576) (d : Nat) : ∀ (i : Nat) (O : List Int), X.length - i = d → i ≤ X.length → O.length ≤ i → ∃ k, lodestarref13_Between.l0 k (X.map ofP) lo hi O (i : Int) = some ((((X.drop i).filter (inR lo hi)).map (·.2)).foldl (fun o x => ins ltI x o) O) := by
  induction d with
  | zero =>
    intro i O hd hi hO
    refine ⟨1, ?_⟩
    simp only [lodestarref13_Between.l0, List.length_map]
    rw [if_neg (by omega), List.drop_eq_nil_of_le (by omega)]
    rfl
  | succ d ih =>
    intro i O hd hi' hO
    have hil : i < X.length := by omega
    have ei : wrap64 ((i : Int) + 1) = ((i + 1 : Nat) : Int) := by rw [wrap_in (by omega) (by omega)]; omega
    have ex : (ofP X[i]).f0 = X[i].1 := rfl
    rw [List.drop_eq_getElem_cons hil]
    by_cases c : inR lo hi X[i] = true
    · obtain ⟨k, hk⟩ := ih (i + 1) (ins ltI X[i].2 O) (by omega) (by omega) (by have := ins_le ltI X[i].2 O; omega)
      refine ⟨k + O.length + 1 + 1 + 1, ?_⟩
      have := i_l1 X lo hi O i hil (by omega) (by omega) O.length k 0 [] false (by omega) (by omega) (by simp)
      rw [List.nil_append, List.drop_zero, go_ins] at this
      have c' : lo ≤ X[i].1 ∧ X[i].1 ≤ hi := by simpa [inR] using c
      simp only [lodestarref13_Between.l0, lodestarref13_Between.j1, List.length_map, rdP X i hil, ex]
      rw [if_pos (by omega), if_pos (by omega), if_neg (by omega), decide_eq_false (by omega), if_neg (by simp), show ((0 : Int)) = ((0 : Nat) : Int) from rfl, this, hk, List.filter_cons_of_pos c]
      rfl
    · obtain ⟨k, hk⟩ := ih (i + 1) O (by omega) (by omega) (by omega)
      refine ⟨k + 1 + 1, ?_⟩
      have c' : ¬ (lo ≤ X[i].1 ∧ X[i].1 ≤ hi) := by simpa [inR] using c
      simp only [lodestarref13_Between.l0, lodestarref13_Between.j1, List.length_map, rdP X i hil, ex, ei]
      rw [if_pos (by omega), if_pos (by omega), List.filter_cons_of_neg c]
      by_cases c1 : X[i].1 < lo
      · rw [if_pos c1, if_pos trivial, hk]
      · rw [if_neg c1, decide_eq_true (by omega), if_pos rfl, hk]
theorem between_ev (l : List En) (lo hi : Int) (hl : l.length ≤ 1048576) : ∃ k, lodestarref13_Between.f k (l.map ofP) lo hi = some (rangeI l lo hi) := by
  obtain ⟨k, hk⟩ := i_l0 l lo hi hl l.length 0 [] (by omega) (by omega) (by simp)
  refine ⟨k, ?_⟩
  unfold lodestarref13_Between.f rangeI rangeE
  rw [← refI_union]
  exact hk
theorem c_l0 (X : List En) (lo hi : Int) (hX : X.length ≤ 1048576) (d : Nat) : ∀ (k i n : Nat), X.length - i = d → i ≤ X.length → n ≤ i → d < k → lodestarref13_Count.l0 k (X.map ofP) lo hi (n : Int) (i : Int) = some ((n + ((X.drop i).filter (inR lo hi)).length : Nat) : Int) := by
  induction d with
  | zero =>
    intro k i n hd hi' hn hk
    obtain ⟨m, rfl, _⟩ := round hk
    simp only [lodestarref13_Count.l0, List.length_map]
    rw [if_neg (by omega), List.drop_eq_nil_of_le (by omega)]
    rfl
  | succ d ih =>
    intro k i n hd hi' hn hk
    obtain ⟨m, rfl, hm⟩ := round hk
    have hil : i < X.length := by omega
    have ei : wrap64 ((i : Int) + 1) = ((i + 1 : Nat) : Int) := by rw [wrap_in (by omega) (by omega)]; omega
    have en : wrap64 ((n : Int) + 1) = ((n + 1 : Nat) : Int) := by rw [wrap_in (by omega) (by omega)]; omega
    have ex : (ofP X[i]).f0 = X[i].1 := rfl
    rw [List.drop_eq_getElem_cons hil]
    simp only [lodestarref13_Count.l0, List.length_map, rdP X i hil, ex, ei, en]
    rw [if_pos (by omega), if_pos (by omega)]
    have h1 := ih m (i + 1) (n + 1) (by omega) (by omega) (by omega) (by omega)
    have h2 := ih m (i + 1) n (by omega) (by omega) (by omega) (by omega)
    by_cases c : inR lo hi X[i] = true
    · have c' : lo ≤ X[i].1 ∧ X[i].1 ≤ hi := by simpa [inR] using c
      rw [if_pos (by omega), if_pos (by omega), h1, List.filter_cons_of_pos c, List.length_cons, show n + 1 + ((X.drop (i + 1)).filter (inR lo hi)).length = n + (((X.drop (i + 1)).filter (inR lo hi)).length + 1) by omega]
    · have c' : ¬ (lo ≤ X[i].1 ∧ X[i].1 ≤ hi) := by simpa [inR] using c
      rw [List.filter_cons_of_neg c]
      by_cases c1 : X[i].1 ≥ lo
      · rw [if_pos c1, if_neg (by omega), h2]
      · rw [if_neg c1, h2]
theorem count_ev (l : List En) (lo hi : Int) (hl : l.length ≤ 1048576) : ∃ k, lodestarref13_Count.f k (l.map ofP) lo hi = some ((rangeE l lo hi).length : Int) := by
  refine ⟨l.length + 1, ?_⟩
  have := c_l0 l lo hi hl l.length (l.length + 1) 0 0 (by omega) (by omega) (by omega) (by omega)
  unfold lodestarref13_Count.f rangeE
  simpa using this
end Go.Proofs.Ytdbdkcmbenokbaa.G
