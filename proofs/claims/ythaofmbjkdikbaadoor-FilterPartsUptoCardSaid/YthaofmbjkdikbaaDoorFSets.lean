/- Filter: the printed functions on sets of ids; the first points of unlike ids; the plain law of FilterParts. -/
import Derived.Test.YthaofmbjkdikbaaDoorFIds
import Derived.Test.YthaofmbjkdikbaaDoorHPut
import Derived.Test.YthaofmbjkdikbaaDoorPAllx16
import Derived.Test.YthaofmbjkdikbaaDoorPAllx13
namespace Go.Proofs.YthaofmbjkdikbaaDoor.F
open Go.RowKit Go.Lib Go.Shelf Go.Proofs.YthaofmbjkdikbaaDoorW.PrintWords Go.Proofs.YthaofmbjkdikbaaDoorW.PrintLast Go.Proofs.YthaofmbjkdikbaaDoorW.PrintMore Go.Proofs.YthaofmbjkdikbaaDoor.PAll Go.Proofs.YthaofmbjkdikbaaDoor.V
set_option linter.unusedSimpArgs false
set_option linter.unusedVariables false
theorem insL_rising {l : List Int} (h : l.Pairwise (· < ·)) (n : Int) : (H.insL l n).Pairwise (· < ·) := by
  unfold H.insL
  split
  · exact h
  · rw [List.pairwise_append]
    refine ⟨h.filter _, ?_, ?_⟩
    · rw [List.pairwise_cons]
      exact ⟨fun a ha => by simpa using (List.mem_filter.1 ha).2, h.filter _⟩
    · intro a ha b hb
      have h1 : a < n := by simpa using (List.mem_filter.1 ha).2
      rcases List.mem_cons.1 hb with hb | hb
      · omega
      · have h2 : n < b := by simpa using (List.mem_filter.1 hb).2
        omega
theorem mem_insL {l : List Int} {n x : Int} : x ∈ H.insL l n ↔ x = n ∨ x ∈ l := by
  unfold H.insL
  split
  · next h => constructor
              · exact .inr
              · rintro (rfl | h')
                · exact h
                · exact h'
  · next h =>
    rw [List.mem_append, List.mem_cons, List.mem_filter, List.mem_filter]
    simp only [decide_eq_true_eq]
    constructor
    · rintro (⟨h1, _⟩ | rfl | ⟨h1, _⟩)
      · exact .inr h1
      · exact .inl rfl
      · exact .inr h1
    · rintro (rfl | h1)
      · exact .inr (.inl rfl)
      · rcases Int.lt_trichotomy x n with h2 | h2 | h2
        · exact .inl ⟨h1, h2⟩
        · exact absurd (h2 ▸ h1) h
        · exact .inr (.inr ⟨h1, h2⟩)
theorem two_filters (l : List Int) (n : Int) : (l.filter fun x => decide (x < n)).length + (l.filter fun x => decide (n < x)).length ≤ l.length := by
  induction l with
  | nil => simp
  | cons a l ih =>
    rw [List.filter_cons, List.filter_cons, List.length_cons]
    split <;> split <;> simp_all <;> omega
theorem insL_le (l : List Int) (n : Int) : (H.insL l n).length ≤ l.length + 1 := by
  unfold H.insL
  split
  · omega
  · next h =>
    rw [List.length_append, List.length_cons]
    have := two_filters l n
    omega

/-- The ids of a list put into a rising one. -/
theorem wrap_in {i : Int} (h0 : -9223372036854775808 ≤ i) (h : i ≤ 9223372036854775807) : wrap64 i = i := by unfold wrap64; omega
theorem rd_nat (l : List Int) (j : Nat) : rd l (j : Int) = l[j]?.getD 0 := by unfold rd; rw [Int.toNat_natCast, List.getD_eq_getElem?_getD]
theorem round {k d : Nat} (h : d < k) : ∃ m, k = m + 1 ∧ d ≤ m := ⟨k - 1, by omega, by omega⟩

theorem rhas_l0 (l : List Int) (v : Int) (hl : l.length ≤ 17592186044416) (d : Nat) : ∀ (k i : Nat), l.length - i = d → i ≤ l.length → d < k → lodestarref08_Has.l0 k l v (i : Int) = some (decide (v ∈ l.drop i)) := by
  induction d with
  | zero =>
    intro k i hd hi hk
    obtain ⟨m, rfl, _⟩ := round hk
    simp only [lodestarref08_Has.l0]
    rw [if_neg (by omega), List.drop_eq_nil_of_le (by omega)]; simp
  | succ d ih =>
    intro k i hd hi hk
    obtain ⟨m, rfl, hm⟩ := round hk
    have ih := ih m (i + 1) (by omega) (by omega) (by omega)
    have e1 : wrap64 ((i : Int) + 1) = ((i + 1 : Nat) : Int) := by rw [wrap_in (by omega) (by omega)]; omega
    simp only [lodestarref08_Has.l0, rd_nat]
    rw [if_pos (by omega), if_pos (by omega), e1, H.drop_at (by omega)]
    by_cases c : l[i]?.getD 0 = v
    · rw [if_pos c]; simp [c]
    · rw [if_neg c, ih]
      have : v ≠ l[i]?.getD 0 := fun e => c e.symm
      simp [this]
theorem rhas_ev (l : List Int) (v : Int) (hl : l.length ≤ 17592186044416) : Ev (fun k => lodestarref08_Has.f k l v) (decide (v ∈ l)) := by
  refine ⟨l.length + 1, fun k hk => ?_⟩
  have := rhas_l0 l v hl l.length k 0 (by omega) (by omega) (by omega)
  simpa [lodestarref08_Has.f] using this

theorem put_some {o : List Int} (h : o.Pairwise (· < ·)) (hl : o.length < 17592186044416) (n : Int) : lodestarref08_Put.f o n = some (H.insL o n) := by
  unfold lodestarref08_Put.f
  rw [if_pos h, if_pos hl]
theorem fold_rising (l : List Int) : ∀ {o : List Int}, o.Pairwise (· < ·) → (l.foldl H.insL o).Pairwise (· < ·) := by
  induction l with
  | nil => intro o h; exact h
  | cons a l ih => intro o h; exact ih (insL_rising h a)
theorem mem_fold (l : List Int) : ∀ {o : List Int} {x : Int}, x ∈ l.foldl H.insL o ↔ x ∈ o ∨ x ∈ l := by
  induction l with
  | nil => intro o x; simp
  | cons a l ih =>
    intro o x
    rw [List.foldl_cons, ih, mem_insL, List.mem_cons]
    constructor
    · rintro ((h | h) | h)
      · exact .inr (.inl h)
      · exact .inl h
      · exact .inr (.inr h)
    · rintro (h | h | h)
      · exact .inl (.inr h)
      · exact .inl (.inl h)
      · exact .inr h
theorem set_l0 (l : List Int) (hxl : l.length ≤ 17592186044416) (d : Nat) : ∀ (k i : Nat) (o : List Int), l.length - i = d → i ≤ l.length → d < k → o.Pairwise (· < ·) → o.length + d < 17592186044416 → lodestarref08_Set.l0 k l o (i : Int) = some ((l.drop i).foldl H.insL o) := by
  induction d with
  | zero =>
    intro k i o hd hi hk ho hol
    obtain ⟨m, rfl, _⟩ := round hk
    simp only [lodestarref08_Set.l0]
    rw [if_neg (by omega), List.drop_eq_nil_of_le (by omega)]; rfl
  | succ d ih =>
    intro k i o hd hi hk ho hol
    obtain ⟨m, rfl, hm⟩ := round hk
    have hle := insL_le o (l[i]?.getD 0)
    have ih := ih m (i + 1) (H.insL o (l[i]?.getD 0)) (by omega) (by omega) (by omega) (insL_rising ho _) (by omega)
    have e1 : wrap64 ((i : Int) + 1) = ((i + 1 : Nat) : Int) := by rw [wrap_in (by omega) (by omega)]; omega
    simp only [lodestarref08_Set.l0, rd_nat]
    rw [if_pos (by omega), if_pos (by omega), e1, put_some ho (by omega), H.drop_at (by omega)]
    simpa using ih
theorem fold_set (l : List Int) : l.foldl H.insL [] = H.setL l := H.rising_ext (fold_rising l (by simp)) (H.setL_rising l) (fun x => by rw [mem_fold, H.mem_setL]; simp)
theorem set_ev (l : List Int) (hl : l.length < 17592186044416) : Ev (fun k => lodestarref08_Set.f k l) (H.setL l) := by
  refine ⟨l.length + 1, fun k hk => ?_⟩
  have := set_l0 l (by omega) l.length k 0 [] (by omega) (by omega) (by omega) (by simp) (by simpa using hl)
  rw [List.drop_zero, fold_set] at this
  simpa [lodestarref08_Set.f] using this
theorem union_l0 (l : List Int) (hxl : l.length ≤ 17592186044416) (d : Nat) : ∀ (k i : Nat) (o : List Int), l.length - i = d → i ≤ l.length → d < k → o.Pairwise (· < ·) → o.length + d < 17592186044416 → lodestarref08_Union.l0 k l o (i : Int) = some ((l.drop i).foldl H.insL o) := by
  induction d with
  | zero =>
    intro k i o hd hi hk ho hol
    obtain ⟨m, rfl, _⟩ := round hk
    simp only [lodestarref08_Union.l0]
    rw [if_neg (by omega), List.drop_eq_nil_of_le (by omega)]; rfl
  | succ d ih =>
    intro k i o hd hi hk ho hol
    obtain ⟨m, rfl, hm⟩ := round hk
    have hle := insL_le o (l[i]?.getD 0)
    have ih := ih m (i + 1) (H.insL o (l[i]?.getD 0)) (by omega) (by omega) (by omega) (insL_rising ho _) (by omega)
    have e1 : wrap64 ((i : Int) + 1) = ((i + 1 : Nat) : Int) := by rw [wrap_in (by omega) (by omega)]; omega
    simp only [lodestarref08_Union.l0, rd_nat]
    rw [if_pos (by omega), if_pos (by omega), e1, put_some ho (by omega), H.drop_at (by omega)]
    simpa using ih
theorem runion_ev (a b : List Int) (hl : a.length + b.length < 17592186044416) : Ev (fun k => lodestarref08_Union.f k a b) (H.someL a b [1, 2, 3]) := by
  unfold lodestarref08_Union.f
  refine (set_ev a (by omega)).bind ⟨b.length + 1, fun k hk => ?_⟩
  have hle := H.setL_le a
  have := union_l0 b (by omega) b.length k 0 (H.setL a) (by omega) (by omega) (by omega) (H.setL_rising a) (by omega)
  rw [List.drop_zero] at this
  refine this.trans ?_
  congr 1
  exact H.rising_ext (fold_rising b (H.setL_rising a)) (H.someL_rising _ _ _) (fun x => by rw [mem_fold, H.mem_setL, H.mem_union])

theorem in_l0 (l : List Int) (v : Int) (hs : l.Pairwise (· < ·)) (hl : l.length ≤ 17592186044416) (d : Nat) : ∀ (k a b : Nat), b - a ≤ d → a ≤ b → b ≤ l.length → d < k → (∀ j, j < a → l[j]?.getD 0 < v) → (∀ j, b ≤ j → j < l.length → v ≤ l[j]?.getD 0) → lodestarref08_in.l0 k l v (a : Int) (b : Int) = some (decide (v ∈ l)) := by
  have fin : ∀ (a : Nat) (m : Nat), a ≤ l.length → (∀ j, j < a → l[j]?.getD 0 < v) → (∀ j, a ≤ j → j < l.length → v ≤ l[j]?.getD 0) → lodestarref08_in.l0 (m + 1) l v (a : Int) (a : Int) = some (decide (v ∈ l)) := by
    intro a m ha h1 h2
    simp only [lodestarref08_in.l0, rd_nat]
    rw [if_neg (by omega)]
    by_cases c : a < l.length
    · rw [if_pos (by omega), if_pos (by omega)]
      congr 1
      by_cases e : l[a]?.getD 0 = v
      · have : v ∈ l := by rw [← e]; simp [c]
        simp [e, this]
      · have hn : v ∉ l := fun hv => by
          obtain ⟨j, hj, e'⟩ := List.mem_iff_getElem.1 hv
          have ej : l[j]?.getD 0 = v := by simp [hj, e']
          rcases Nat.lt_trichotomy j a with h | h | h
          · have := h1 j h; omega
          · subst h; exact e ej
          · have h3 := h2 a (Nat.le_refl _) c
            have h4 := H.rising_at hs h hj
            omega
        simp [e, hn]
    · rw [if_neg (by omega)]
      congr 1
      have hn : v ∉ l := fun hv => by
        obtain ⟨j, hj, e'⟩ := List.mem_iff_getElem.1 hv
        have ej : l[j]?.getD 0 = v := by simp [hj, e']
        have := h1 j (by omega); omega
      simp [hn]
  induction d with
  | zero =>
    intro k a b hd hab hb hk h1 h2
    obtain ⟨m, rfl, _⟩ := round hk
    obtain rfl : a = b := by omega
    exact fin a m hb h1 h2
  | succ d ih =>
    intro k a b hd hab hb hk h1 h2
    obtain ⟨m, rfl, hm⟩ := round hk
    rcases Nat.eq_or_lt_of_le hab with h | hlt
    · subst h; exact fin a m hb h1 h2
    · have em : wrap64 (Int.tdiv (wrap64 ((a : Int) + (b : Int))) 2) = (((a + b) / 2 : Nat) : Int) := by
        rw [wrap_in (i := (a : Int) + b) (by omega) (by omega), Int.tdiv_eq_ediv_of_nonneg (by omega), wrap_in (by omega) (by omega)]; omega
      simp only [lodestarref08_in.l0, em, rd_nat]
      rw [if_pos (by omega), if_pos (by omega), if_pos (by omega)]
      by_cases c : l[(a + b) / 2]?.getD 0 < v
      · rw [if_pos c, wrap_in (by omega) (by omega)]
        have := ih m ((a + b) / 2 + 1) b (by omega) (by omega) hb (by omega) (fun j hj => by
          rcases Nat.lt_or_ge j ((a + b) / 2) with h | h
          · have := H.rising_at hs h (by omega); omega
          · have : j = (a + b) / 2 := by omega
            subst this; exact c) h2
        simpa using this
      · rw [if_neg c]
        exact ih m a ((a + b) / 2) (by omega) (by omega) (by omega) (by omega) h1 (fun j h3 h4 => by
          rcases Nat.lt_or_ge ((a + b) / 2) j with h | h
          · have := H.rising_at hs h h4; omega
          · have : j = (a + b) / 2 := by omega
            subst this; omega)
theorem in_ev (l : List Int) (v : Int) (hs : l.Pairwise (· < ·)) (hl : l.length ≤ 17592186044416) : ∀ k, l.length < k → lodestarref08_in.f k l v = some (decide (v ∈ l)) := by
  intro k hk
  have := in_l0 l v hs hl l.length k 0 l.length (by omega) (by omega) (by omega) hk (fun j h => by omega) (fun j h1 h2 => by omega)
  simpa [lodestarref08_in.f] using this

theorem inter_l0 (x y : List Int) (hy : y.Pairwise (· < ·)) (hyl : y.length ≤ 17592186044416) (hxl : x.length ≤ 17592186044416) (d : Nat) : ∀ (k i : Nat) (o : List Int), x.length - i = d → i ≤ x.length → d + y.length + 1 < k → o.length + d < 17592186044416 → lodestarref08_Inter.l0 k x y o (i : Int) = some (o ++ (x.drop i).filter fun z => decide (z ∈ y)) := by
  induction d with
  | zero =>
    intro k i o hd hi hk hol
    obtain ⟨m, rfl, _⟩ := round (d := 0) (show 0 < k by omega)
    simp only [lodestarref08_Inter.l0]
    rw [if_neg (by omega), List.drop_eq_nil_of_le (by omega)]; simp
  | succ d ih =>
    intro k i o hd hi hk hol
    obtain ⟨m, rfl, hm⟩ := round hk
    have e1 : wrap64 ((i : Int) + 1) = ((i + 1 : Nat) : Int) := by rw [wrap_in (by omega) (by omega)]; omega
    simp only [lodestarref08_Inter.l0, rd_nat]
    rw [if_pos (by omega), if_pos (by omega), e1, in_ev y _ hy hyl m (by omega), H.drop_at (by omega), List.filter_cons]
    simp only [Option.bind_some]
    by_cases c : x[i]?.getD 0 ∈ y
    · rw [if_pos (by simpa using c), if_pos (by omega), if_pos (by simpa using c), ih m (i + 1) _ (by omega) (by omega) (by omega) (by simp; omega)]
      simp
    · rw [if_neg (by simpa using c), if_neg (by simpa using c), ih m (i + 1) _ (by omega) (by omega) (by omega) (by omega)]
theorem rinter_ev (a b : List Int) (hl : a.length + b.length < 17592186044416) : Ev (fun k => lodestarref08_Inter.f k a b) (H.someL a b [3]) := by
  unfold lodestarref08_Inter.f
  have h1 := H.setL_le a
  have h2 := H.setL_le b
  refine (set_ev a (by omega)).bind ((set_ev b (by omega)).bind ⟨(H.setL a).length + (H.setL b).length + 2, fun k hk => ?_⟩)
  have := inter_l0 (H.setL a) (H.setL b) (H.setL_rising b) (by omega) (by omega) (H.setL a).length k 0 [] (by omega) (by omega) (by omega) (by simp; omega)
  rw [List.drop_zero, List.nil_append] at this
  refine this.trans ?_
  congr 1
  exact H.rising_ext ((H.setL_rising a).filter _) (H.someL_rising _ _ _) (fun x => by rw [List.mem_filter, H.mem_inter]; simp [H.mem_setL])
theorem snocInd {α : Type} {Q : List α → Prop} (h0 : Q []) (h1 : ∀ l a, Q l → Q (l ++ [a])) : ∀ l, Q l := fun l => by
  have : ∀ (n : Nat) (l : List α), l.length = n → Q l := by
    intro n
    induction n with
    | zero => intro l h; rw [List.eq_nil_of_length_eq_zero h]; exact h0
    | succ n ih =>
      intro l h
      have hne : l ≠ [] := fun e => by rw [e] at h; simp at h
      rw [← List.dropLast_concat_getLast hne]
      exact h1 _ _ (ih _ (by rw [List.length_dropLast, h]; rfl))
  exact this _ l rfl
def hasId (o : List Pt) (id : Int) : Bool := o.any (fun q => decide (q.f0 = id))
def addF (o : List Pt) (p : Pt) : List Pt := if hasId o p.f0 = true then o else o ++ [p]
def firsts (l : List Pt) : List Pt := l.foldl addF []
theorem firsts_snoc (l : List Pt) (p : Pt) : firsts (l ++ [p]) = addF (firsts l) p := by unfold firsts; rw [List.foldl_append]; rfl
theorem hasId_iff {o : List Pt} {id : Int} : hasId o id = true ↔ ∃ q ∈ o, q.f0 = id := by
  unfold hasId; rw [List.any_eq_true]; simp
theorem hasId_snoc (o : List Pt) (q : Pt) (id : Int) : hasId (o ++ [q]) id = (hasId o id || decide (q.f0 = id)) := by unfold hasId; rw [List.any_append]; simp
theorem firsts_le (l : List Pt) : (firsts l).length ≤ l.length := by
  induction l using snocInd with
  | h0 => simp [firsts]
  | h1 l p ih => rw [firsts_snoc]; unfold addF; split <;> simp <;> omega
theorem firsts_mem (l : List Pt) : ∀ p ∈ firsts l, p ∈ l := by
  induction l using snocInd with
  | h0 => intro p h; simp [firsts] at h
  | h1 l q ih =>
    intro p h
    rw [firsts_snoc] at h
    unfold addF at h
    split at h
    · exact List.mem_append.2 (.inl (ih p h))
    · rcases List.mem_append.1 h with h | h
      · exact List.mem_append.2 (.inl (ih p h))
      · exact List.mem_append.2 (.inr h)
/-- No id twice. -/
def Unlike (l : List Pt) : Prop := l.Pairwise (fun p q => p.f0 ≠ q.f0)
theorem firsts_unlike (l : List Pt) : Unlike (firsts l) := by
  induction l using snocInd with
  | h0 => simp [firsts, Unlike]
  | h1 l p ih =>
    rw [firsts_snoc]
    unfold addF
    split
    · exact ih
    · next h =>
      unfold Unlike
      rw [List.pairwise_append]
      refine ⟨ih, by simp, fun a ha b hb e => ?_⟩
      simp at hb
      subst hb
      exact h (hasId_iff.2 ⟨a, ha, e⟩)

def notC (c : Cn) : Cn := ⟨6, ⟨#[]⟩, ⟨0, 0, ⟨#[]⟩⟩, 0, 0, [c]⟩
theorem small_not {c : Cn} (h : Small c) : Small (notC c) := .mk _ (by show 1 ≤ 1048576; omega) (fun x hx => by rw [List.mem_singleton.1 hx]; exact h)
theorem pass_not (fs : List Fi) (c : Cn) : passC fs (notC c) = !passC fs c := by
  rw [passC]
  show (decide ([c].length = 1) && ([c].map fun x => passC fs x).all fun b => !b) = _
  simp
theorem mem_idsOf {c : Cn} {l : List Pt} {x : Int} : x ∈ idsOf c l ↔ ∃ p ∈ l, passC p.f2 c = true ∧ p.f0 = x := by
  unfold idsOf
  rw [List.mem_map]
  constructor
  · rintro ⟨p, hp, rfl⟩
    rw [List.mem_filter] at hp
    exact ⟨p, hp.1, hp.2, rfl⟩
  · rintro ⟨p, hp, hq, rfl⟩
    exact ⟨p, List.mem_filter.2 ⟨hp, hq⟩, rfl⟩
theorem unlike_eq {l : List Pt} (h : Unlike l) {p q : Pt} (hp : p ∈ l) (hq : q ∈ l) (e : p.f0 = q.f0) : p = q := by
  induction l with
  | nil => cases hp
  | cons a l ih =>
    unfold Unlike at h
    rw [List.pairwise_cons] at h
    rcases List.mem_cons.1 hp with rfl | hp' <;> rcases List.mem_cons.1 hq with rfl | hq'
    · rfl
    · exact absurd e (h.1 q hq')
    · exact absurd e.symm (h.1 p hp')
    · exact ih h.2 hp' hq'
theorem parts_none {l : List Pt} (h : Unlike l) (c : Cn) : H.someL (unionL (idsOf c l)) (unionL (idsOf (notC c) l)) [3] = [] := by
  refine H.rising_ext (H.someL_rising _ _ _) (by simp) (fun x => ⟨fun hx => ?_, fun hx => by cases hx⟩)
  rw [H.mem_inter, mem_unionL, mem_unionL, mem_idsOf, mem_idsOf] at hx
  obtain ⟨⟨p, hp, h1, e1⟩, q, hq, h2, e2⟩ := hx
  rw [unlike_eq h hp hq (by rw [e1, e2])] at h1
  rw [pass_not, h1] at h2
  cases h2
theorem parts_all (l : List Pt) (c : Cn) : H.someL (unionL (idsOf c l)) (unionL (idsOf (notC c) l)) [1, 2, 3] = H.setL (l.map (·.f0)) := by
  refine H.rising_ext (H.someL_rising _ _ _) (H.setL_rising _) (fun x => ?_)
  rw [H.mem_union, mem_unionL, mem_unionL, mem_idsOf, mem_idsOf, H.mem_setL, List.mem_map]
  constructor
  · rintro (⟨p, hp, _, rfl⟩ | ⟨p, hp, _, rfl⟩) <;> exact ⟨p, hp, rfl⟩
  · rintro ⟨p, hp, rfl⟩
    cases h : passC p.f2 c with
    | true => exact .inl ⟨p, hp, h, rfl⟩
    | false => exact .inr ⟨p, hp, by rw [pass_not, h]; rfl, rfl⟩
theorem rising_len : ∀ {a b : List Int}, a.Pairwise (· < ·) → b.Nodup → (∀ x, x ∈ a ↔ x ∈ b) → a.length = b.length := fun {a b} ha hb h => by
  have hn : a.Nodup := ha.imp (fun h => by omega)
  exact ((List.perm_ext_iff_of_nodup hn hb).2 h).length_eq
theorem idsOf_nodup {l : List Pt} (h : Unlike l) (c : Cn) : (idsOf c l).Nodup := by
  unfold idsOf List.Nodup
  rw [List.pairwise_map]
  exact h.filter _
theorem len_idsOf (l : List Pt) (c : Cn) : (idsOf c l).length + (idsOf (notC c) l).length = l.length := by
  induction l with
  | nil => rfl
  | cons p l ih =>
    rw [idsOf_cons, idsOf_cons, pass_not]
    cases h : passC p.f2 c <;> simp <;> omega
theorem parts_len {l : List Pt} (h : Unlike l) (c : Cn) : (unionL (idsOf c l)).length + (unionL (idsOf (notC c) l)).length = l.length := by
  rw [rising_len (union_rising _) (idsOf_nodup h c) (fun x => mem_unionL), rising_len (union_rising _) (idsOf_nodup h (notC c)) (fun x => mem_unionL), len_idsOf]
theorem hasId_mem (o : List Pt) (id : Int) : decide (id ∈ o.map (·.f0)) = hasId o id := by
  cases h : hasId o id with
  | true =>
    obtain ⟨q, hq, rfl⟩ := hasId_iff.1 h
    exact decide_eq_true (List.mem_map.2 ⟨q, hq, rfl⟩)
  | false =>
    refine decide_eq_false (fun hm => ?_)
    obtain ⟨q, hq, rfl⟩ := List.mem_map.1 hm
    rw [hasId_iff.2 ⟨q, hq, rfl⟩] at h
    cases h
theorem same_ev (l : List Int) (hl : l.length ≤ 1048576) : ∀ (d i : Nat), i + d = l.length → ∃ k, lodestarref08_Same.l0 k l l (i : Int) = some true
  | 0, i, h => ⟨1, by rw [lodestarref08_Same.l0, if_neg (by omega)]⟩
  | d + 1, i, h => by
    obtain ⟨k, hk⟩ := same_ev l hl d (i + 1) (by omega)
    exact ⟨k + 1, by rw [lodestarref08_Same.l0, if_pos (by omega), if_pos (by omega), if_pos (by omega), if_pos rfl, wr_next (by omega), hk]⟩
theorem same_self (l : List Int) (hl : l.length ≤ 1048576) : ∃ k, lodestarref08_Same.f k l l = some true := by
  obtain ⟨k, hk⟩ := same_ev l hl l.length 0 (by omega)
  exact ⟨k, by rw [lodestarref08_Same.f, if_pos rfl]; exact hk⟩
end Go.Proofs.YthaofmbjkdikbaaDoor.F
