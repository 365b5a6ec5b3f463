/- The plain law of lists of ids: sets as rising lists (for a seat that has no writing of lists). No Go here. -/
import Derived.Test.YthaofmbjkdikbaaDoorHSome
namespace Go.Proofs.YthaofmbjkdikbaaDoor.H
set_option linter.unusedSimpArgs false
set_option linter.unusedVariables false

/-- Two rising lists of the same numbers are one. -/
theorem rising_ext : ∀ {a b : List Int}, a.Pairwise (· < ·) → b.Pairwise (· < ·) → (∀ x, x ∈ a ↔ x ∈ b) → a = b
  | [], [], _, _, _ => rfl
  | [], y :: b, _, _, h => absurd ((h y).2 (by simp)) (by simp)
  | x :: a, [], _, _, h => absurd ((h x).1 (by simp)) (by simp)
  | x :: a, y :: b, ha, hb, h => by
    rw [List.pairwise_cons] at ha hb
    have e : x = y := by
      have h1 := (h x).1 (by simp)
      have h2 := (h y).2 (by simp)
      rcases List.mem_cons.1 h1 with h1 | h1
      · exact h1
      · rcases List.mem_cons.1 h2 with h2 | h2
        · exact h2.symm
        · have := hb.1 x h1; have := ha.1 y h2; omega
    subst e
    rw [rising_ext ha.2 hb.2 (fun z => ?_)]
    constructor
    · intro hz
      have h3 := ha.1 z hz
      rcases List.mem_cons.1 ((h z).1 (List.mem_cons_of_mem _ hz)) with h4 | h4
      · omega
      · exact h4
    · intro hz
      have h3 := hb.1 z hz
      rcases List.mem_cons.1 ((h z).2 (List.mem_cons_of_mem _ hz)) with h4 | h4
      · omega
      · exact h4

theorem mem_compactUpTo (d : Array Int) (m : Nat) (hm : m ≤ d.size) (x : Int) : x ∈ Lib.compactUpTo d m ↔ ∃ j, j < m ∧ d[j]! = x := by
  induction m with
  | zero => simp [Lib.compactUpTo]
  | succ m ih =>
    rw [Lib.compactUpTo_succ, List.mem_append, ih (by omega)]
    constructor
    · rintro (⟨j, hj, e⟩ | h)
      · exact ⟨j, by omega, e⟩
      · split at h
        · exact ⟨m, by omega, by simpa using (List.mem_singleton.1 h).symm⟩
        · simp at h
    · rintro ⟨j, hj, e⟩
      rcases Nat.lt_or_ge j m with h | h
      · exact .inl ⟨j, h, e⟩
      · have : j = m := by omega
        subst this
        by_cases hk : Lib.keeps d j = true
        · exact .inr (by rw [if_pos hk]; simp [e])
        · -- it is the one before it
          have hk' : Lib.keeps d j = false := by simpa using hk
          have h0 : 0 < j := by
            rcases Nat.eq_zero_or_pos j with h | h
            · subst h; simp [Lib.keeps] at hk'
            · exact h
          refine .inl ⟨j - 1, by omega, ?_⟩
          simp [Lib.keeps] at hk'
          rw [← e]
          have := hk'.2
          first | exact this.symm | exact this | (rw [this])

theorem rising_compactUpTo (d : Array Int) (m : Nat) (hm : m ≤ d.size) (hs : ∀ i j, i < j → j < d.size → d[i]! ≤ d[j]!) : (Lib.compactUpTo d m).Pairwise (· < ·) := by
  induction m with
  | zero => simp [Lib.compactUpTo]
  | succ m ih =>
    rw [Lib.compactUpTo_succ]
    split
    · next hk =>
      rw [List.pairwise_append]
      refine ⟨ih (by omega), by simp, fun a ha b hb => ?_⟩
      rw [List.mem_singleton] at hb
      subst hb
      obtain ⟨j, hj, rfl⟩ := (mem_compactUpTo d m (by omega) a).1 ha
      have h1 := hs j m hj (by omega)
      rcases Nat.lt_or_ge j (m - 1) with h | h
      · have h2 := hs j (m - 1) h (by omega)
        have h3 := hs (m - 1) m (by omega) (by omega)
        have : d[m - 1]! ≠ d[m]! := by
          simp [Lib.keeps] at hk
          rcases hk with hk | hk
          · omega
          · first | exact hk | exact fun e => hk e.symm
        omega
      · have : j = m - 1 := by omega
        subst this
        have : d[m - 1]! ≠ d[m]! := by
          simp [Lib.keeps] at hk
          rcases hk with hk | hk
          · omega
          · first | exact hk | exact fun e => hk e.symm
        omega
    · simpa using ih (by omega)

theorem sorted_at (l : List Int) : ∀ i j, i < j → j < (l.mergeSort fun x y => decide (x ≤ y)).toArray.size → (l.mergeSort fun x y => decide (x ≤ y)).toArray[i]! ≤ (l.mergeSort fun x y => decide (x ≤ y)).toArray[j]! := by
  intro i j hij hj
  have h := List.pairwise_mergeSort (le := fun x y : Int => decide (x ≤ y)) (fun a b c h1 h2 => by simp at *; omega) (fun a b => by simp; omega) l
  have hj' : j < (l.mergeSort fun x y => decide (x ≤ y)).length := by simpa using hj
  have := List.pairwise_iff_getElem.1 h i j (by omega) hj' hij
  simp [show i < (l.mergeSort fun x y => decide (x ≤ y)).length by omega, hj'] at this ⊢
  simpa [show i < l.length by simp at hj'; omega, show j < l.length by simp at hj'; omega] using this

theorem setL_rising (l : List Int) : (setL l).Pairwise (· < ·) := rising_compactUpTo _ _ (by simp) (sorted_at l)
theorem mem_setL {l : List Int} {x : Int} : x ∈ setL l ↔ x ∈ l := by
  unfold setL Lib.compact
  rw [mem_compactUpTo _ _ (by simp)]
  constructor
  · rintro ⟨j, hj, rfl⟩
    have : (l.mergeSort fun x y => decide (x ≤ y)).toArray[j]! ∈ l.mergeSort fun x y => decide (x ≤ y) := by
      simp at hj
      simp [hj]
    exact List.mem_mergeSort.1 this
  · intro hx
    obtain ⟨j, hj, rfl⟩ := List.mem_iff_getElem.1 (List.mem_mergeSort (le := fun x y => decide (x ≤ y)).2 hx)
    exact ⟨j, hj, by simp at hj; simp [hj]⟩
theorem setL_eq {l k : List Int} (hk : k.Pairwise (· < ·)) (h : ∀ x, x ∈ k ↔ x ∈ l) : setL l = k := rising_ext (setL_rising l) hk (fun x => by rw [mem_setL, h])

theorem two_filters (l : List Int) (n : Int) : (l.filter fun x => decide (x < n)).length + (l.filter fun x => decide (n < x)).length ≤ l.length := by
  induction l with
  | nil => simp
  | cons a l ih =>
    rw [List.filter_cons, List.filter_cons, List.length_cons]
    split <;> split <;> simp_all <;> omega
theorem mem_mg : ∀ {x y : List Int}, x.Pairwise (· < ·) → y.Pairwise (· < ·) → ∀ p : Int × Int, p ∈ mg x y ↔ (p.2 = 1 ∧ p.1 ∈ x ∧ p.1 ∉ y) ∨ (p.2 = 2 ∧ p.1 ∉ x ∧ p.1 ∈ y) ∨ (p.2 = 3 ∧ p.1 ∈ x ∧ p.1 ∈ y) := by
  intro x y
  induction x, y using mg.induct with
  | case1 => intro _ _ p; simp [mg]
  | case2 a x ih =>
    intro hx hy p
    rw [List.pairwise_cons] at hx
    rw [mg, List.mem_cons, ih hx.2 hy]
    obtain ⟨p1, p2⟩ := p
    simp only [Prod.mk.injEq, List.mem_cons, List.not_mem_nil, not_false_eq_true, and_true, and_false, or_false, false_and]
    constructor
    · rintro (⟨rfl, rfl⟩ | ⟨rfl, h⟩)
      · exact ⟨rfl, .inl rfl⟩
      · exact ⟨rfl, .inr h⟩
    · rintro ⟨rfl, rfl | h⟩
      · exact .inl ⟨rfl, rfl⟩
      · exact .inr ⟨rfl, h⟩
  | case3 b y ih =>
    intro hx hy p
    rw [List.pairwise_cons] at hy
    rw [mg, List.mem_cons, ih hx hy.2]
    obtain ⟨p1, p2⟩ := p
    simp only [Prod.mk.injEq, List.mem_cons, List.not_mem_nil, not_false_eq_true, true_and, false_and, and_false, or_false, false_or]
    constructor
    · rintro (⟨rfl, rfl⟩ | ⟨rfl, h⟩)
      · exact ⟨rfl, .inl rfl⟩
      · exact ⟨rfl, .inr h⟩
    · rintro ⟨rfl, rfl | h⟩
      · exact .inl ⟨rfl, rfl⟩
      · exact .inr ⟨rfl, h⟩
  | case4 a x b y hlt ih =>
    intro hx hy p
    have hx' := List.pairwise_cons.1 hx
    have hy' := List.pairwise_cons.1 hy
    rw [mg, if_pos hlt, List.mem_cons, ih hx'.2 hy]
    obtain ⟨p1, p2⟩ := p
    have hay : a ∉ b :: y := fun h => by
      rcases List.mem_cons.1 h with h | h
      · omega
      · have := hy'.1 a h; omega
    have hax : a ∉ x := fun h => by have := hx'.1 a h; omega
    simp only [Prod.mk.injEq, List.mem_cons (a := p1) (b := a)]
    by_cases e : p1 = a
    · subst e
      simp [hay, hax]
      try omega
    · simp [e]
  | case5 a x b y hlt hlt2 ih =>
    intro hx hy p
    have hx' := List.pairwise_cons.1 hx
    have hy' := List.pairwise_cons.1 hy
    rw [mg, if_neg hlt, if_pos hlt2, List.mem_cons, ih hx hy'.2]
    obtain ⟨p1, p2⟩ := p
    have hbx : b ∉ a :: x := fun h => by
      rcases List.mem_cons.1 h with h | h
      · omega
      · have := hx'.1 b h; omega
    have hby : b ∉ y := fun h => by have := hy'.1 b h; omega
    simp only [Prod.mk.injEq, List.mem_cons (a := p1) (b := b)]
    by_cases e : p1 = b
    · subst e
      simp [hbx, hby]
      try omega
    · simp [e]
  | case6 a x b y hlt hlt2 ih =>
    intro hx hy p
    have hx' := List.pairwise_cons.1 hx
    have hy' := List.pairwise_cons.1 hy
    have e : a = b := by omega
    subst e
    rw [mg, if_neg hlt, if_neg hlt2, List.mem_cons, ih hx'.2 hy'.2]
    obtain ⟨p1, p2⟩ := p
    have hax : a ∉ x := fun h => by have := hx'.1 a h; omega
    have hay : a ∉ y := fun h => by have := hy'.1 a h; omega
    simp only [Prod.mk.injEq, List.mem_cons]
    by_cases e : p1 = a
    · subst e
      simp [hax, hay]
    · simp [e]

theorem mg_lt {x y : List Int} {c : Int} (hx : ∀ z ∈ x, c < z) (hy : ∀ z ∈ y, c < z) : ∀ p ∈ mg x y, c < p.1 := by
  induction x, y using mg.induct with
  | case1 => intro p hp; simp [mg] at hp
  | case2 a x ih =>
    intro p hp
    rw [mg, List.mem_cons] at hp
    rcases hp with rfl | hp
    · exact hx a (by simp)
    · exact ih (fun z hz => hx z (List.mem_cons_of_mem _ hz)) hy p hp
  | case3 b y ih =>
    intro p hp
    rw [mg, List.mem_cons] at hp
    rcases hp with rfl | hp
    · exact hy b (by simp)
    · exact ih hx (fun z hz => hy z (List.mem_cons_of_mem _ hz)) p hp
  | case4 a x b y hlt ih =>
    intro p hp
    rw [mg, if_pos hlt, List.mem_cons] at hp
    rcases hp with rfl | hp
    · exact hx a (by simp)
    · exact ih (fun z hz => hx z (List.mem_cons_of_mem _ hz)) hy p hp
  | case5 a x b y hlt hlt2 ih =>
    intro p hp
    rw [mg, if_neg hlt, if_pos hlt2, List.mem_cons] at hp
    rcases hp with rfl | hp
    · exact hy b (by simp)
    · exact ih hx (fun z hz => hy z (List.mem_cons_of_mem _ hz)) p hp
  | case6 a x b y hlt hlt2 ih =>
    intro p hp
    rw [mg, if_neg hlt, if_neg hlt2, List.mem_cons] at hp
    rcases hp with rfl | hp
    · exact hy b (by simp)
    · exact ih (fun z hz => hx z (List.mem_cons_of_mem _ hz)) (fun z hz => hy z (List.mem_cons_of_mem _ hz)) p hp

theorem mg_rising {x y : List Int} (hx : x.Pairwise (· < ·)) (hy : y.Pairwise (· < ·)) : (mg x y).Pairwise (fun p q => p.1 < q.1) := by
  induction x, y using mg.induct with
  | case1 => simp [mg]
  | case2 a x ih =>
    rw [List.pairwise_cons] at hx
    rw [mg, List.pairwise_cons]
    exact ⟨mg_lt hx.1 (by simp), ih hx.2 hy⟩
  | case3 b y ih =>
    rw [List.pairwise_cons] at hy
    rw [mg, List.pairwise_cons]
    exact ⟨mg_lt (by simp) hy.1, ih hx hy.2⟩
  | case4 a x b y hlt ih =>
    have hx' := List.pairwise_cons.1 hx
    have hy' := List.pairwise_cons.1 hy
    rw [mg, if_pos hlt, List.pairwise_cons]
    refine ⟨mg_lt hx'.1 (fun z hz => ?_), ih hx'.2 hy⟩
    rcases List.mem_cons.1 hz with rfl | hz
    · exact hlt
    · have := hy'.1 z hz; show a < z; omega
  | case5 a x b y hlt hlt2 ih =>
    have hx' := List.pairwise_cons.1 hx
    have hy' := List.pairwise_cons.1 hy
    rw [mg, if_neg hlt, if_pos hlt2, List.pairwise_cons]
    refine ⟨mg_lt (fun z hz => ?_) hy'.1, ih hx hy'.2⟩
    rcases List.mem_cons.1 hz with rfl | hz
    · exact hlt2
    · have := hx'.1 z hz; show b < z; omega
  | case6 a x b y hlt hlt2 ih =>
    have hx' := List.pairwise_cons.1 hx
    have hy' := List.pairwise_cons.1 hy
    have e : a = b := by omega
    subst e
    rw [mg, if_neg hlt, if_neg hlt2, List.pairwise_cons]
    exact ⟨mg_lt hx'.1 hy'.1, ih hx'.2 hy'.2⟩

theorem someL_rising (l0 l1 l2 : List Int) : (someL l0 l1 l2).Pairwise (· < ·) := by
  unfold someL
  rw [List.pairwise_map]
  exact (mg_rising (setL_rising l0) (setL_rising l1)).filter _
theorem mem_someL {l0 l1 l2 : List Int} {x : Int} : x ∈ someL l0 l1 l2 ↔ (1 ∈ l2 ∧ x ∈ l0 ∧ x ∉ l1) ∨ (2 ∈ l2 ∧ x ∉ l0 ∧ x ∈ l1) ∨ (3 ∈ l2 ∧ x ∈ l0 ∧ x ∈ l1) := by
  unfold someL
  rw [List.mem_map]
  constructor
  · rintro ⟨⟨p1, p2⟩, hp, rfl⟩
    rw [List.mem_filter, mem_mg (setL_rising l0) (setL_rising l1)] at hp
    obtain ⟨hp, hc⟩ := hp
    simp only [mem_setL, List.contains_iff_mem] at hp hc
    rcases hp with ⟨rfl, h⟩ | ⟨rfl, h⟩ | ⟨rfl, h⟩
    · exact .inl ⟨hc, h⟩
    · exact .inr (.inl ⟨hc, h⟩)
    · exact .inr (.inr ⟨hc, h⟩)
  · have key : ∀ w : Int, w ∈ l2 → ((w = 1 ∧ x ∈ l0 ∧ x ∉ l1) ∨ (w = 2 ∧ x ∉ l0 ∧ x ∈ l1) ∨ (w = 3 ∧ x ∈ l0 ∧ x ∈ l1)) → ∃ a, a ∈ List.filter (fun p => l2.contains p.2) (mg (setL l0) (setL l1)) ∧ a.1 = x := fun w hw h =>
      ⟨(x, w), by rw [List.mem_filter, mem_mg (setL_rising l0) (setL_rising l1)]; simp only [mem_setL, List.contains_iff_mem]; exact ⟨h, hw⟩, rfl⟩
    rintro (⟨hw, h⟩ | ⟨hw, h⟩ | ⟨hw, h⟩)
    · exact key 1 hw (.inl ⟨rfl, h⟩)
    · exact key 2 hw (.inr (.inl ⟨rfl, h⟩))
    · exact key 3 hw (.inr (.inr ⟨rfl, h⟩))
theorem mem_union {a b : List Int} {x : Int} : x ∈ someL a b [1, 2, 3] ↔ x ∈ a ∨ x ∈ b := by
  rw [mem_someL]
  by_cases h1 : x ∈ a <;> by_cases h2 : x ∈ b <;> simp [h1, h2]
theorem mem_inter {a b : List Int} {x : Int} : x ∈ someL a b [3] ↔ x ∈ a ∧ x ∈ b := by rw [mem_someL]; simp
theorem mem_diff {a b : List Int} {x : Int} : x ∈ someL a b [1] ↔ x ∈ a ∧ x ∉ b := by rw [mem_someL]; simp
theorem someL_le (l0 l1 l2 : List Int) : (someL l0 l1 l2).length ≤ l0.length + l1.length := by
  unfold someL
  rw [List.length_map]
  have h1 := List.length_filter_le (fun p : Int × Int => l2.contains p.2) (mg (setL l0) (setL l1))
  have h2 := mg_le (setL l0) (setL l1)
  have h3 := setL_le l0
  have h4 := setL_le l1
  omega
end Go.Proofs.YthaofmbjkdikbaaDoor.H
