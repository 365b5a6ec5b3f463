/- Ranges: the plain law: the entries, rising by number, then id, each once; the reference's lists are the same. No Go here. -/
import Derived.Test.YtdbdkcmbenokbaaGBetw
import Derived.Test.YtdbdkcmbenokbaaHUnion
import Derived.Test.YtdbdkcmbenokbaaPAllx4
namespace Go.Proofs.Ytdbdkcmbenokbaa.G
open Go.RowKit Go.Lib Go.Proofs.YtdbdkcmbenokbaaW.PrintWords Go.Proofs.YtdbdkcmbenokbaaW.PrintMore Go.Proofs.Ytdbdkcmbenokbaa.PAll
open Go.Sort hiding rd
set_option linter.unusedVariables false

theorem wrap_in {i : Int} (h0 : -9223372036854775808 ≤ i) (h : i ≤ 9223372036854775807) : wrap64 i = i := by unfold wrap64; omega
theorem rd_nat (l : List Int) (j : Nat) : rd l (j : Int) = l[j]?.getD 0 := by unfold rd; rw [Int.toNat_natCast, List.getD_eq_getElem?_getD]
theorem round {k d : Nat} (h : d < k) : ∃ m, k = m + 1 ∧ d ≤ m := ⟨k - 1, by omega, by omega⟩
theorem drop_at {α : Type} {l : List α} {i : Nat} {z : α} (h : i < l.length) : l.drop i = l[i]?.getD z :: l.drop (i + 1) := by
  rw [List.drop_eq_getElem_cons h]; simp [h]
/-- By number, then id. -/
def ltE (x y : En) : Prop := x.1 < y.1 ∨ (x.1 = y.1 ∧ x.2 < y.2)
instance (x y : En) : Decidable (ltE x y) := by unfold ltE; infer_instance
theorem ltE_trans {x y z : En} (h1 : ltE x y) (h2 : ltE y z) : ltE x z := by unfold ltE at *; omega
theorem ltE_irrefl {x : En} : ¬ ltE x x := by unfold ltE; omega
theorem ltE_tri (x y : En) : ltE x y ∨ x = y ∨ ltE y x := by
  obtain ⟨x1, x2⟩ := x
  obtain ⟨y1, y2⟩ := y
  simp only [ltE, Prod.mk.injEq]
  omega
theorem ltE_ext : ∀ {a b : List En}, a.Pairwise ltE → b.Pairwise ltE → (∀ x, x ∈ a ↔ x ∈ b) → a = b
  | [], [], _, _, _ => rfl
  | [], y :: b, _, _, h => absurd ((h y).2 (by simp)) (by simp)
  | x :: a, [], _, _, h => absurd ((h x).1 (by simp)) (by simp)
  | x :: a, y :: b, ha, hb, h => by
    rw [List.pairwise_cons] at ha hb
    have e : x = y := by
      have h1 := (h x).1 (by simp)
      have h2 := (h y).2 (by simp)
      rcases List.mem_cons.1 h1 with h1 | h1
      · exact h1
      · rcases List.mem_cons.1 h2 with h2 | h2
        · exact h2.symm
        · exact absurd (ltE_trans (hb.1 x h1) (ha.1 y h2)) ltE_irrefl
    subst e
    rw [ltE_ext ha.2 hb.2 (fun z => ?_)]
    constructor
    · intro hz
      have h3 := ha.1 z hz
      rcases List.mem_cons.1 ((h z).1 (List.mem_cons_of_mem _ hz)) with h4 | h4
      · subst h4; exact absurd h3 ltE_irrefl
      · exact h4
    · intro hz
      have h3 := hb.1 z hz
      rcases List.mem_cons.1 ((h z).2 (List.mem_cons_of_mem _ hz)) with h4 | h4
      · subst h4; exact absurd h3 ltE_irrefl
      · exact h4
theorem mem_compactUpTo (d : Array En) (m : Nat) (hm : m ≤ d.size) (x : En) : x ∈ Lib.compactUpTo d m ↔ ∃ j, j < m ∧ d[j]! = x := by
  induction m with
  | zero => simp [Lib.compactUpTo]
  | succ m ih =>
    rw [Lib.compactUpTo_succ, List.mem_append, ih (by omega)]
    constructor
    · rintro (⟨j, hj, e⟩ | h)
      · exact ⟨j, by omega, e⟩
      · split at h
        · exact ⟨m, by omega, (List.mem_singleton.1 h).symm⟩
        · simp at h
    · rintro ⟨j, hj, e⟩
      rcases Nat.lt_or_ge j m with h | h
      · exact .inl ⟨j, h, e⟩
      · have : j = m := by omega
        subst this
        by_cases hk : Lib.keeps d j = true
        · exact .inr (by rw [if_pos hk]; simp [e])
        · have hk' : ¬ (j = 0 ∨ d[j]! ≠ d[j - 1]!) := fun h => hk (by simp only [Lib.keeps]; exact decide_eq_true h)
          refine .inl ⟨j - 1, by omega, ?_⟩
          rw [← e]
          exact (Classical.not_not.1 (fun h => hk' (.inr h))).symm
theorem strict_compactUpTo (d : Array En) (m : Nat) (hm : m ≤ d.size) (hs : ∀ i j, i < j → j < d.size → ¬ ltE d[j]! d[i]!) : (Lib.compactUpTo d m).Pairwise ltE := by
  induction m with
  | zero => simp [Lib.compactUpTo]
  | succ m ih =>
    rw [Lib.compactUpTo_succ]
    split
    · next hk =>
      rw [List.pairwise_append]
      refine ⟨ih (by omega), by simp, fun a ha b hb => ?_⟩
      rw [List.mem_singleton] at hb
      subst hb
      obtain ⟨j, hj, rfl⟩ := (mem_compactUpTo d m (by omega) a).1 ha
      have h1 := hs j m hj (by omega)
      have hne : m = 0 ∨ d[m]! ≠ d[m - 1]! := of_decide_eq_true hk
      have hne : d[m]! ≠ d[m - 1]! := by rcases hne with h | h; omega; exact h
      rcases ltE_tri d[j]! d[m]! with h | h | h
      · exact h
      · rcases Nat.lt_or_ge j (m - 1) with h2 | h2
        · have h3 := hs j (m - 1) h2 (by omega)
          have h4 := hs (m - 1) m (by omega) (by omega)
          rcases ltE_tri d[m - 1]! d[m]! with h5 | h5 | h5
          · rw [h] at h3; exact absurd h5 h3
          · exact absurd h5.symm hne
          · exact absurd h5 h4
        · have : j = m - 1 := by omega
          subst this
          exact absurd h.symm hne
      · exact absurd h h1
    · simpa using ih (by omega)
theorem sortE_at (l : List En) : ∀ i j, i < j → j < (sortE l).toArray.size → ¬ ltE (sortE l).toArray[j]! (sortE l).toArray[i]! := by
  intro i j hij hj
  have h := List.pairwise_mergeSort (le := fun x y : En => !(ltOf cmpE) y x) (fun a b c h1 h2 => by
      simp only [Bool.not_eq_true'] at h1 h2 ⊢; rw [ltOf_not] at *; omega) (fun a b => by
      rcases h : ltOf cmpE b a with _ | _
      · simp
      · have : ltOf cmpE a b = false := by rw [ltOf_iff] at h; rw [ltOf_not]; omega
        simp [this]) l
  have hj' : j < (sortE l).length := by simpa using hj
  have := List.pairwise_iff_getElem.1 h i j (by have : i < (sortE l).length := by omega
                                                exact this) hj' hij
  rw [getElem!_pos _ _ (by simpa using hj), getElem!_pos _ _ (by simp at hj ⊢; omega)]
  simp only [Bool.not_eq_true'] at this
  rw [ltOf_not] at this
  simp only [List.getElem_toArray, ltE]
  have e : ∀ (k : Nat) (hk : k < (sortE l).length), (sortE l)[k] = (l.mergeSort fun x y => !(ltOf cmpE) y x)[k]'hk := fun _ _ => rfl
  rw [e j hj', e i (by omega)]
  omega
theorem norm_strict (l : List En) : (norm l).Pairwise ltE := by
  have := strict_compactUpTo (sortE l).toArray (sortE l).toArray.size (Nat.le_refl _) (sortE_at l)
  rwa [List.size_toArray] at this
theorem mem_norm {l : List En} {x : En} : x ∈ norm l ↔ x ∈ l := by
  have h1 : x ∈ norm l ↔ x ∈ sortE l := by
    unfold norm Lib.compact
    rw [mem_compactUpTo _ _ (by simp)]
    constructor
    · rintro ⟨j, hj, rfl⟩
      rw [getElem!_pos _ _ (by simpa using hj)]
      simp
    · intro hx
      obtain ⟨j, hj, rfl⟩ := List.mem_iff_getElem.1 hx
      exact ⟨j, hj, by rw [getElem!_pos _ _ (by simpa using hj)]; simp⟩
  rw [h1]
  exact List.mem_mergeSort
theorem norm_eq {l k : List En} (hk : k.Pairwise ltE) (h : ∀ x, x ∈ k ↔ x ∈ l) : norm l = k := ltE_ext (norm_strict l) hk (fun x => by rw [mem_norm, h])
theorem norm_same {l k : List En} (h : ∀ x, x ∈ k ↔ x ∈ l) : norm l = norm k := norm_eq (norm_strict k) (fun x => by rw [mem_norm, h])
theorem norm_sorted (l : List En) : (norm l).Pairwise (fun x y => x.1 ≤ y.1) := (norm_strict l).imp (fun h => by unfold ltE at h; omega)
theorem union_rising (l : List Int) : (unionL l).Pairwise (· < ·) := H.someL_rising _ _ _
theorem mem_unionL {l : List Int} {x : Int} : x ∈ unionL l ↔ x ∈ l := by unfold unionL; rw [H.mem_union]; simp
theorem unionL_le (l : List Int) : (unionL l).length ≤ l.length := H.someL_le l [] [1, 2, 3]
/-- The counts of two neighbouring ranges. -/
theorem counts_add (l : List En) (low mid high : Int) (h1 : low ≤ mid) (h2 : mid < high) : (l.filter (inR low mid)).length + (l.filter (inR (mid + 1) high)).length = (l.filter (inR low high)).length := by
  induction l with
  | nil => rfl
  | cons x r ih =>
    simp only [List.filter_cons, inR] at ih ⊢
    by_cases a : x.1 ≤ mid
    · by_cases b : low ≤ x.1
      · simp [a, b, show ¬ mid + 1 ≤ x.1 by omega, show x.1 ≤ high by omega]; omega
      · simp [b, show ¬ mid + 1 ≤ x.1 by omega]; omega
    · by_cases b : x.1 ≤ high
      · simp [a, b, show mid + 1 ≤ x.1 by omega, show low ≤ x.1 by omega]; omega
      · simp [a, b]; omega

/-! ### the reference's tests -/
def toP (e : S32) : En := (e.f0, e.f1)
def ofP (p : En) : S32 := ⟨p.1, p.2⟩
theorem ofP_toP (e : S32) : ofP (toP e) = e := rfl
theorem map_toP_ofP (l : List En) : (l.map ofP).map toP = l := by rw [List.map_map]; exact List.map_id _
theorem map_ofP_toP (l : List S32) : (l.map toP).map ofP = l := by rw [List.map_map]; exact List.map_id _
theorem rdT_nat (l : List S32) (j : Nat) : rd_T32 l (j : Int) = l[j]?.getD z32 := by unfold rd_T32; rw [Int.toNat_natCast, List.getD_eq_getElem?_getD]
theorem ints_l0 (a b : List Int) (he : a.length = b.length) (hl : a.length ≤ 17592186044416) (d : Nat) : ∀ (k i : Nat), a.length - i = d → i ≤ a.length → d < k → lodestarref13_Ints.l0 k a b (i : Int) = some (decide (a.drop i = b.drop i)) := by
  induction d with
  | zero =>
    intro k i hd hi hk
    obtain ⟨m, rfl, _⟩ := round hk
    simp only [lodestarref13_Ints.l0]
    rw [if_neg (by omega), List.drop_eq_nil_of_le (by omega), List.drop_eq_nil_of_le (by omega)]
    simp
  | succ d ih =>
    intro k i hd hi hk
    obtain ⟨m, rfl, hm⟩ := round hk
    have ih := ih m (i + 1) (by omega) (by omega) (by omega)
    have e1 : wrap64 ((i : Int) + 1) = ((i + 1 : Nat) : Int) := by rw [wrap_in (by omega) (by omega)]; omega
    simp only [lodestarref13_Ints.l0, rd_nat]
    rw [if_pos (by omega), if_pos (by omega), if_pos (by omega), e1, drop_at (z := 0) (by omega), drop_at (l := b) (z := 0) (by omega)]
    by_cases c : a[i]?.getD 0 = b[i]?.getD 0
    · rw [if_pos c, ih, c]; simp
    · rw [if_neg c]; simp [c]
theorem ints_ev (a b : List Int) (hl : a.length ≤ 17592186044416) : ∃ k, lodestarref13_Ints.f k a b = some (decide (a = b)) := by
  refine ⟨a.length + 1, ?_⟩
  simp only [lodestarref13_Ints.f]
  by_cases c : a.length = b.length
  · rw [if_pos (by omega)]
    have := ints_l0 a b c hl a.length (a.length + 1) 0 (by omega) (by omega) (by omega)
    simpa using this
  · rw [if_neg (by omega)]
    have : a ≠ b := fun e => c (by rw [e])
    simp [this]
theorem same_l0 (a b : List S32) (he : a.length = b.length) (hl : a.length ≤ 17592186044416) (d : Nat) : ∀ (k i : Nat), a.length - i = d → i ≤ a.length → d < k → lodestarref13_Same.l0 k a b (i : Int) = some (decide ((a.map toP).drop i = (b.map toP).drop i)) := by
  induction d with
  | zero =>
    intro k i hd hi hk
    obtain ⟨m, rfl, _⟩ := round hk
    simp only [lodestarref13_Same.l0]
    rw [if_neg (by omega), List.drop_eq_nil_of_le (by simp; omega), List.drop_eq_nil_of_le (by simp; omega)]
    simp
  | succ d ih =>
    intro k i hd hi hk
    obtain ⟨m, rfl, hm⟩ := round hk
    have ih := ih m (i + 1) (by omega) (by omega) (by omega)
    have e1 : wrap64 ((i : Int) + 1) = ((i + 1 : Nat) : Int) := by rw [wrap_in (by omega) (by omega)]; omega
    simp only [lodestarref13_Same.l0, rdT_nat]
    rw [if_pos (by omega), if_pos (by omega), if_pos (by omega), e1, drop_at (l := a.map toP) (z := (0, 0)) (by simp; omega), drop_at (l := b.map toP) (z := (0, 0)) (by simp; omega), ih]
    have ha : i < a.length := by omega
    have hb : i < b.length := by omega
    simp only [List.getElem?_map, List.getElem?_eq_getElem ha, List.getElem?_eq_getElem hb, Option.map_some, Option.getD_some, List.cons.injEq, toP, Prod.mk.injEq]
    by_cases c : a[i].f0 = b[i].f0 <;> by_cases c2 : a[i].f1 = b[i].f1 <;> simp [c, c2]
theorem same_ev (a b : List S32) (hl : a.length ≤ 17592186044416) : ∃ k, lodestarref13_Same.f k a b = some (decide (a.map toP = b.map toP)) := by
  refine ⟨a.length + 1, ?_⟩
  simp only [lodestarref13_Same.f]
  by_cases c : a.length = b.length
  · rw [if_pos (by omega)]
    have := same_l0 a b c hl a.length (a.length + 1) 0 (by omega) (by omega) (by omega)
    simpa using this
  · rw [if_neg (by omega)]
    have : a.map toP ≠ b.map toP := fun e => c (by have := congrArg List.length e; simpa using this)
    simp [this]
end Go.Proofs.Ytdbdkcmbenokbaa.G
