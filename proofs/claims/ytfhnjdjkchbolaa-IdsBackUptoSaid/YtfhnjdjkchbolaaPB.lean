/- What the printed functions on lists of ids come to: no memory and no Go here. -/
import Derived.Test.YtfhnjdjkchbolaaHPure
import Derived.Test.YtfhnjdjkchbolaaPAllx1
import Derived.Test.YtfhnjdjkchbolaaPAllx5
import Derived.Test.YtfhnjdjkchbolaaPAllx6
import Derived.Test.YtfhnjdjkchbolaaPAllx12
import Derived.Test.YtfhnjdjkchbolaaPAllx8
import Derived.Test.YtfhnjdjkchbolaaPAllx11
namespace Go.Proofs.Ytfhnjdjkchbolaa.PAll
open Go.RowKit Go.Proofs.YtfhnjdjkchbolaaW.PrintWords Go.Proofs.YtfhnjdjkchbolaaW.PrintLast Go.Proofs.YtfhnjdjkchbolaaW.PrintMore
set_option linter.unusedSimpArgs false
set_option linter.unusedVariables false

theorem wrap_in {i : Int} (h0 : -9223372036854775808 ≤ i) (h : i ≤ 9223372036854775807) : wrap64 i = i := by unfold wrap64; omega
theorem rd_nat (l : List Int) (j : Nat) : rd l (j : Int) = l[j]?.getD 0 := by unfold rd; rw [Int.toNat_natCast, List.getD_eq_getElem?_getD]
theorem round {k d : Nat} (h : d < k) : ∃ m, k = m + 1 ∧ d ≤ m := ⟨k - 1, by omega, by omega⟩

/-- From place i on, l is a list of ids. -/
def okFrom (l : List Int) (i : Nat) : Prop := ∀ j, i ≤ j → j < l.length → 1 ≤ l[j]?.getD 0 ∧ l[j]?.getD 0 ≤ 4503599627370496 ∧ (0 < j → l[j - 1]?.getD 0 < l[j]?.getD 0)
theorem okFrom_step {l : List Int} {i : Nat} (hi : i < l.length) : okFrom l i ↔ (1 ≤ l[i]?.getD 0 ∧ l[i]?.getD 0 ≤ 4503599627370496 ∧ (0 < i → l[i - 1]?.getD 0 < l[i]?.getD 0)) ∧ okFrom l (i + 1) := by
  constructor
  · intro h; exact ⟨h i (Nat.le_refl _) hi, fun j h1 h2 => h j (by omega) h2⟩
  · rintro ⟨h1, h2⟩ j h3 h4
    rcases Nat.eq_or_lt_of_le h3 with h | h
    · subst h; exact h1
    · exact h2 j h h4
theorem okFrom_isIds (l : List Int) : okFrom l 0 ↔ H.IsIds l := by
  constructor
  · intro h
    refine ⟨List.pairwise_iff_getElem.2 ?_, fun x hx => ?_⟩
    · have key : ∀ d i, i + d + 1 < l.length → l[i]?.getD 0 < l[i + d + 1]?.getD 0 := by
        intro d
        induction d with
        | zero => intro i hi; have := (h (i + 1) (by omega) hi).2.2 (by omega); simpa using this
        | succ d ih =>
          intro i hi
          have h1 := ih i (by omega)
          have h2 := (h (i + (d + 1) + 1) (by omega) hi).2.2 (by omega)
          have e : i + (d + 1) + 1 - 1 = i + d + 1 := by omega
          rw [e] at h2; omega
      intro i j hi hj hij
      have := key (j - i - 1) i (by omega)
      rw [show i + (j - i - 1) + 1 = j from by omega] at this
      simpa [hi, hj] using this
    · obtain ⟨j, hj, rfl⟩ := List.mem_iff_getElem.1 hx
      have := h j (by omega) hj
      simp [hj] at this
      exact ⟨this.1, this.2.1⟩
  · intro h j _ hj
    have h1 := h.2 l[j] (List.getElem_mem hj)
    refine ⟨by simp [hj]; exact h1.1, by simp [hj]; exact h1.2, fun h0 => H.rising_at h.1 (by omega) hj⟩

theorem check_l0 (l : List Int) (hl : l.length ≤ 17592186044416) (d : Nat) : ∀ (k i : Nat), l.length - i = d → i ≤ l.length → d < k → (okFrom l i → ids_Check.l0 k l l (l.length : Int) (i : Int) = some 0) ∧ (¬ okFrom l i → ids_Check.l0 k l l (l.length : Int) (i : Int) = some 80) := by
  induction d with
  | zero =>
    intro k i hd hi hk
    obtain ⟨m, rfl, _⟩ := round hk
    have : okFrom l i := fun j h1 h2 => by omega
    refine ⟨fun _ => ?_, fun h => absurd this h⟩
    simp only [ids_Check.l0]
    rw [if_neg (by omega)]
  | succ d ih =>
    intro k i hd hi hk
    obtain ⟨m, rfl, hm⟩ := round hk
    have hlt : i < l.length := by omega
    obtain ⟨h1, h2⟩ := ih m (i + 1) (by omega) (by omega) (by omega)
    rw [okFrom_step hlt]
    have e1 : wrap64 ((i : Int) + 1) = ((i + 1 : Nat) : Int) := by rw [wrap_in (by omega) (by omega)]; omega
    simp only [ids_Check.l0, rd_nat]
    rw [if_pos (by omega), if_pos (by omega), if_pos (by omega), e1]
    by_cases c1 : l[i]?.getD 0 < 1
    · rw [if_pos c1]; exact ⟨fun h => by omega, fun _ => rfl⟩
    · rw [if_neg c1]
      by_cases c2 : l[i]?.getD 0 > 4503599627370496
      · rw [if_pos c2]; exact ⟨fun h => by omega, fun _ => rfl⟩
      · rw [if_neg c2]
        by_cases c3 : (i : Int) > 0
        · have e2 : wrap64 ((i : Int) - 1) = ((i - 1 : Nat) : Int) := by rw [wrap_in (by omega) (by omega)]; omega
          rw [if_pos c3, e2, if_pos (by omega), if_pos (by omega), rd_nat]
          by_cases c4 : l[i - 1]?.getD 0 ≥ l[i]?.getD 0
          · rw [if_pos c4]; exact ⟨fun h => by have := h.1.2.2 (by omega); omega, fun _ => rfl⟩
          · rw [if_neg c4]
            exact ⟨fun h => h1 h.2, fun h => h2 (fun h' => h ⟨⟨by omega, by omega, fun _ => by omega⟩, h'⟩)⟩
        · rw [if_neg c3]
          exact ⟨fun h => h1 h.2, fun h => h2 (fun h' => h ⟨⟨by omega, by omega, fun h => by omega⟩, h'⟩)⟩
theorem check_ev (l : List Int) (hl : l.length ≤ 17592186044416) : Ev (fun k => ids_Check.f k l) (if H.IsIds l then 0 else 80) := by
  refine ⟨l.length + 1, fun k hk => ?_⟩
  have h := check_l0 l hl l.length k 0 (by omega) (by omega) (by omega)
  unfold ids_Check.f
  split
  · next c => exact h.1 ((okFrom_isIds l).2 c)
  · next c => exact h.2 (fun h' => c ((okFrom_isIds l).1 h'))

theorem rcheck_l0 (l : List Int) (hl : l.length ≤ 17592186044416) (d : Nat) : ∀ (k i : Nat), l.length - i = d → i ≤ l.length → d < k → (okFrom l i → lodestarref08_Check.l0 k l (i : Int) = some 0) ∧ (¬ okFrom l i → lodestarref08_Check.l0 k l (i : Int) = some 80) := by
  induction d with
  | zero =>
    intro k i hd hi hk
    obtain ⟨m, rfl, _⟩ := round hk
    have : okFrom l i := fun j h1 h2 => by omega
    refine ⟨fun _ => ?_, fun h => absurd this h⟩
    simp only [lodestarref08_Check.l0]
    rw [if_neg (by omega)]
  | succ d ih =>
    intro k i hd hi hk
    obtain ⟨m, rfl, hm⟩ := round hk
    have hlt : i < l.length := by omega
    obtain ⟨h1, h2⟩ := ih m (i + 1) (by omega) (by omega) (by omega)
    rw [okFrom_step hlt]
    have e1 : wrap64 ((i : Int) + 1) = ((i + 1 : Nat) : Int) := by rw [wrap_in (by omega) (by omega)]; omega
    simp only [lodestarref08_Check.l0, rd_nat]
    rw [if_pos (by omega), if_pos (by omega), e1]
    by_cases c1 : l[i]?.getD 0 < 1
    · rw [if_pos c1]; exact ⟨fun h => by omega, fun _ => rfl⟩
    · rw [if_neg c1]
      by_cases c2 : l[i]?.getD 0 > 4503599627370496
      · rw [if_pos c2]; exact ⟨fun h => by omega, fun _ => rfl⟩
      · rw [if_neg c2]
        by_cases c3 : (i : Int) > 0
        · have e2 : wrap64 ((i : Int) - 1) = ((i - 1 : Nat) : Int) := by rw [wrap_in (by omega) (by omega)]; omega
          rw [if_pos c3, e2, if_pos (by omega), if_pos (by omega), rd_nat]
          by_cases c4 : l[i - 1]?.getD 0 ≥ l[i]?.getD 0
          · rw [if_pos c4]; exact ⟨fun h => by have := h.1.2.2 (by omega); omega, fun _ => rfl⟩
          · rw [if_neg c4]
            exact ⟨fun h => h1 h.2, fun h => h2 (fun h' => h ⟨⟨by omega, by omega, fun _ => by omega⟩, h'⟩)⟩
        · rw [if_neg c3]
          exact ⟨fun h => h1 h.2, fun h => h2 (fun h' => h ⟨⟨by omega, by omega, fun h => by omega⟩, h'⟩)⟩
theorem rcheck_ev (l : List Int) (hl : l.length ≤ 17592186044416) : Ev (fun k => lodestarref08_Check.f k l) (if H.IsIds l then 0 else 80) := by
  refine ⟨l.length + 1, fun k hk => ?_⟩
  have h := rcheck_l0 l hl l.length k 0 (by omega) (by omega) (by omega)
  unfold lodestarref08_Check.f
  split
  · next c => exact h.1 ((okFrom_isIds l).2 c)
  · next c => exact h.2 (fun h' => c ((okFrom_isIds l).1 h'))

theorem same_l0 (a b : List Int) (he : a.length = b.length) (hl : a.length ≤ 17592186044416) (d : Nat) : ∀ (k i : Nat), a.length - i = d → i ≤ a.length → d < k → lodestarref08_Same.l0 k a b (i : Int) = some (decide (a.drop i = b.drop i)) := by
  induction d with
  | zero =>
    intro k i hd hi hk
    obtain ⟨m, rfl, _⟩ := round hk
    simp only [lodestarref08_Same.l0]
    rw [if_neg (by omega), List.drop_eq_nil_of_le (by omega), List.drop_eq_nil_of_le (by omega)]
    simp
  | succ d ih =>
    intro k i hd hi hk
    obtain ⟨m, rfl, hm⟩ := round hk
    have ih := ih m (i + 1) (by omega) (by omega) (by omega)
    have e1 : wrap64 ((i : Int) + 1) = ((i + 1 : Nat) : Int) := by rw [wrap_in (by omega) (by omega)]; omega
    simp only [lodestarref08_Same.l0, rd_nat]
    rw [if_pos (by omega), if_pos (by omega), if_pos (by omega), e1, H.drop_at (by omega), H.drop_at (l := b) (by omega)]
    by_cases c : a[i]?.getD 0 = b[i]?.getD 0
    · rw [if_pos c, ih, c]; simp
    · rw [if_neg c]; simp [c]
theorem rsame_ev (a b : List Int) (hl : a.length ≤ 17592186044416) : Ev (fun k => lodestarref08_Same.f k a b) (decide (a = b)) := by
  refine ⟨a.length + 1, fun k hk => ?_⟩
  simp only [lodestarref08_Same.f]
  by_cases c : a.length = b.length
  · rw [if_pos (by omega)]
    have := same_l0 a b c hl a.length k 0 (by omega) (by omega) (by omega)
    simpa using this
  · rw [if_neg (by omega)]
    have : a ≠ b := fun e => c (by rw [e])
    simp [this]
theorem same_ev (a b : List Int) (hl : a.length ≤ 17592186044416) : Ev (fun k => lodestarlaw08_same.f k a b) (decide (a = b)) := by
  unfold lodestarlaw08_same.f
  exact (rsame_ev a b hl).bind (Ev.now _)
theorem same_self (a : List Int) (hl : a.length ≤ 17592186044416) : Ev (fun k => lodestarlaw08_same.f k a a) true := by simpa using same_ev a a hl

theorem index_l0 (l : List Int) (v : Int) (hl : l.length ≤ 17592186044416) (d : Nat) : ∀ (k i : Nat), l.length - i = d → i ≤ l.length → d < k → ∃ r, slices_Index_int_int.l0 k l v (l.length : Int) (i : Int) = some r ∧ (r ≥ 0 ↔ v ∈ l.drop i) := by
  induction d with
  | zero =>
    intro k i hd hi hk
    obtain ⟨m, rfl, _⟩ := round hk
    refine ⟨-1, ?_, ?_⟩
    · simp only [slices_Index_int_int.l0]; rw [if_neg (by omega)]
    · rw [List.drop_eq_nil_of_le (by omega)]; simp
  | succ d ih =>
    intro k i hd hi hk
    obtain ⟨m, rfl, hm⟩ := round hk
    obtain ⟨r, h1, h2⟩ := ih m (i + 1) (by omega) (by omega) (by omega)
    have e1 : wrap64 ((i : Int) + 1) = ((i + 1 : Nat) : Int) := by rw [wrap_in (by omega) (by omega)]; omega
    simp only [slices_Index_int_int.l0, rd_nat]
    rw [if_pos (by omega), if_pos (by omega), if_pos (by omega), e1, H.drop_at (by omega)]
    by_cases c : v = l[i]?.getD 0
    · rw [if_pos c]; exact ⟨_, rfl, by rw [← c]; simp⟩
    · rw [if_neg c]; exact ⟨r, h1, by rw [h2]; simp [c]⟩
theorem has_ev (l : List Int) (v : Int) (hl : l.length ≤ 17592186044416) : Ev (fun k => ids_Has.f k l v) (decide (v ∈ l)) := by
  refine ⟨l.length + 1, fun k hk => ?_⟩
  obtain ⟨r, h1, h2⟩ := index_l0 l v hl l.length k 0 (by omega) (by omega) (by omega)
  simp only [ids_Has.f, slices_Contains_int_int.f, slices_Index_int_int.f]
  rw [show ((0 : Nat) : Int) = 0 from rfl] at h1
  rw [h1]
  simp only [Option.bind_some]
  rw [List.drop_zero] at h2
  congr 1
  exact decide_eq_decide.2 h2
theorem rhas_l0 (l : List Int) (v : Int) (hl : l.length ≤ 17592186044416) (d : Nat) : ∀ (k i : Nat), l.length - i = d → i ≤ l.length → d < k → lodestarref08_Has.l0 k l v (i : Int) = some (decide (v ∈ l.drop i)) := by
  induction d with
  | zero =>
    intro k i hd hi hk
    obtain ⟨m, rfl, _⟩ := round hk
    simp only [lodestarref08_Has.l0]
    rw [if_neg (by omega), List.drop_eq_nil_of_le (by omega)]; simp
  | succ d ih =>
    intro k i hd hi hk
    obtain ⟨m, rfl, hm⟩ := round hk
    have ih := ih m (i + 1) (by omega) (by omega) (by omega)
    have e1 : wrap64 ((i : Int) + 1) = ((i + 1 : Nat) : Int) := by rw [wrap_in (by omega) (by omega)]; omega
    simp only [lodestarref08_Has.l0, rd_nat]
    rw [if_pos (by omega), if_pos (by omega), e1, H.drop_at (by omega)]
    by_cases c : l[i]?.getD 0 = v
    · rw [if_pos c]; simp [c]
    · rw [if_neg c, ih]
      have : v ≠ l[i]?.getD 0 := fun e => c e.symm
      simp [this]
theorem rhas_ev (l : List Int) (v : Int) (hl : l.length ≤ 17592186044416) : Ev (fun k => lodestarref08_Has.f k l v) (decide (v ∈ l)) := by
  refine ⟨l.length + 1, fun k hk => ?_⟩
  have := rhas_l0 l v hl l.length k 0 (by omega) (by omega) (by omega)
  simpa [lodestarref08_Has.f] using this

theorem put_some {o : List Int} (h : o.Pairwise (· < ·)) (hl : o.length < 17592186044416) (n : Int) : lodestarref08_Put.f o n = some (H.insL o n) := by
  unfold lodestarref08_Put.f
  rw [if_pos h, if_pos hl]
theorem fold_rising (l : List Int) : ∀ {o : List Int}, o.Pairwise (· < ·) → (l.foldl H.insL o).Pairwise (· < ·) := by
  induction l with
  | nil => intro o h; exact h
  | cons a l ih => intro o h; exact ih (H.insL_rising h a)
theorem mem_fold (l : List Int) : ∀ {o : List Int} {x : Int}, x ∈ l.foldl H.insL o ↔ x ∈ o ∨ x ∈ l := by
  induction l with
  | nil => intro o x; simp
  | cons a l ih =>
    intro o x
    rw [List.foldl_cons, ih, H.mem_insL, List.mem_cons]
    constructor
    · rintro ((h | h) | h)
      · exact .inr (.inl h)
      · exact .inl h
      · exact .inr (.inr h)
    · rintro (h | h | h)
      · exact .inl (.inr h)
      · exact .inl (.inl h)
      · exact .inr h
theorem set_l0 (l : List Int) (hxl : l.length ≤ 17592186044416) (d : Nat) : ∀ (k i : Nat) (o : List Int), l.length - i = d → i ≤ l.length → d < k → o.Pairwise (· < ·) → o.length + d < 17592186044416 → lodestarref08_Set.l0 k l o (i : Int) = some ((l.drop i).foldl H.insL o) := by
  induction d with
  | zero =>
    intro k i o hd hi hk ho hol
    obtain ⟨m, rfl, _⟩ := round hk
    simp only [lodestarref08_Set.l0]
    rw [if_neg (by omega), List.drop_eq_nil_of_le (by omega)]; rfl
  | succ d ih =>
    intro k i o hd hi hk ho hol
    obtain ⟨m, rfl, hm⟩ := round hk
    have hle := H.insL_le o (l[i]?.getD 0)
    have ih := ih m (i + 1) (H.insL o (l[i]?.getD 0)) (by omega) (by omega) (by omega) (H.insL_rising ho _) (by omega)
    have e1 : wrap64 ((i : Int) + 1) = ((i + 1 : Nat) : Int) := by rw [wrap_in (by omega) (by omega)]; omega
    simp only [lodestarref08_Set.l0, rd_nat]
    rw [if_pos (by omega), if_pos (by omega), e1, put_some ho (by omega), H.drop_at (by omega)]
    simpa using ih
theorem fold_set (l : List Int) : l.foldl H.insL [] = H.setL l := H.rising_ext (fold_rising l (by simp)) (H.setL_rising l) (fun x => by rw [mem_fold, H.mem_setL]; simp)
theorem set_ev (l : List Int) (hl : l.length < 17592186044416) : Ev (fun k => lodestarref08_Set.f k l) (H.setL l) := by
  refine ⟨l.length + 1, fun k hk => ?_⟩
  have := set_l0 l (by omega) l.length k 0 [] (by omega) (by omega) (by omega) (by simp) (by simpa using hl)
  rw [List.drop_zero, fold_set] at this
  simpa [lodestarref08_Set.f] using this
theorem union_l0 (l : List Int) (hxl : l.length ≤ 17592186044416) (d : Nat) : ∀ (k i : Nat) (o : List Int), l.length - i = d → i ≤ l.length → d < k → o.Pairwise (· < ·) → o.length + d < 17592186044416 → lodestarref08_Union.l0 k l o (i : Int) = some ((l.drop i).foldl H.insL o) := by
  induction d with
  | zero =>
    intro k i o hd hi hk ho hol
    obtain ⟨m, rfl, _⟩ := round hk
    simp only [lodestarref08_Union.l0]
    rw [if_neg (by omega), List.drop_eq_nil_of_le (by omega)]; rfl
  | succ d ih =>
    intro k i o hd hi hk ho hol
    obtain ⟨m, rfl, hm⟩ := round hk
    have hle := H.insL_le o (l[i]?.getD 0)
    have ih := ih m (i + 1) (H.insL o (l[i]?.getD 0)) (by omega) (by omega) (by omega) (H.insL_rising ho _) (by omega)
    have e1 : wrap64 ((i : Int) + 1) = ((i + 1 : Nat) : Int) := by rw [wrap_in (by omega) (by omega)]; omega
    simp only [lodestarref08_Union.l0, rd_nat]
    rw [if_pos (by omega), if_pos (by omega), e1, put_some ho (by omega), H.drop_at (by omega)]
    simpa using ih
theorem runion_ev (a b : List Int) (hl : a.length + b.length < 17592186044416) : Ev (fun k => lodestarref08_Union.f k a b) (H.someL a b [1, 2, 3]) := by
  unfold lodestarref08_Union.f
  refine (set_ev a (by omega)).bind ⟨b.length + 1, fun k hk => ?_⟩
  have hle := H.setL_le a
  have := union_l0 b (by omega) b.length k 0 (H.setL a) (by omega) (by omega) (by omega) (H.setL_rising a) (by omega)
  rw [List.drop_zero] at this
  refine this.trans ?_
  congr 1
  exact H.rising_ext (fold_rising b (H.setL_rising a)) (H.someL_rising _ _ _) (fun x => by rw [mem_fold, H.mem_setL, H.mem_union])

theorem in_l0 (l : List Int) (v : Int) (hs : l.Pairwise (· < ·)) (hl : l.length ≤ 17592186044416) (d : Nat) : ∀ (k a b : Nat), b - a ≤ d → a ≤ b → b ≤ l.length → d < k → (∀ j, j < a → l[j]?.getD 0 < v) → (∀ j, b ≤ j → j < l.length → v ≤ l[j]?.getD 0) → lodestarref08_in.l0 k l v (a : Int) (b : Int) = some (decide (v ∈ l)) := by
  have fin : ∀ (a : Nat) (m : Nat), a ≤ l.length → (∀ j, j < a → l[j]?.getD 0 < v) → (∀ j, a ≤ j → j < l.length → v ≤ l[j]?.getD 0) → lodestarref08_in.l0 (m + 1) l v (a : Int) (a : Int) = some (decide (v ∈ l)) := by
    intro a m ha h1 h2
    simp only [lodestarref08_in.l0, rd_nat]
    rw [if_neg (by omega)]
    by_cases c : a < l.length
    · rw [if_pos (by omega), if_pos (by omega)]
      congr 1
      by_cases e : l[a]?.getD 0 = v
      · have : v ∈ l := by rw [← e]; simp [c]
        simp [e, this]
      · have hn : v ∉ l := fun hv => by
          obtain ⟨j, hj, e'⟩ := List.mem_iff_getElem.1 hv
          have ej : l[j]?.getD 0 = v := by simp [hj, e']
          rcases Nat.lt_trichotomy j a with h | h | h
          · have := h1 j h; omega
          · subst h; exact e ej
          · have h3 := h2 a (Nat.le_refl _) c
            have h4 := H.rising_at hs h hj
            omega
        simp [e, hn]
    · rw [if_neg (by omega)]
      congr 1
      have hn : v ∉ l := fun hv => by
        obtain ⟨j, hj, e'⟩ := List.mem_iff_getElem.1 hv
        have ej : l[j]?.getD 0 = v := by simp [hj, e']
        have := h1 j (by omega); omega
      simp [hn]
  induction d with
  | zero =>
    intro k a b hd hab hb hk h1 h2
    obtain ⟨m, rfl, _⟩ := round hk
    obtain rfl : a = b := by omega
    exact fin a m hb h1 h2
  | succ d ih =>
    intro k a b hd hab hb hk h1 h2
    obtain ⟨m, rfl, hm⟩ := round hk
    rcases Nat.eq_or_lt_of_le hab with h | hlt
    · subst h; exact fin a m hb h1 h2
    · have em : wrap64 (Int.tdiv (wrap64 ((a : Int) + (b : Int))) 2) = (((a + b) / 2 : Nat) : Int) := by
        rw [wrap_in (i := (a : Int) + b) (by omega) (by omega), Int.tdiv_eq_ediv_of_nonneg (by omega), wrap_in (by omega) (by omega)]; omega
      simp only [lodestarref08_in.l0, em, rd_nat]
      rw [if_pos (by omega), if_pos (by omega), if_pos (by omega)]
      by_cases c : l[(a + b) / 2]?.getD 0 < v
      · rw [if_pos c, wrap_in (by omega) (by omega)]
        have := ih m ((a + b) / 2 + 1) b (by omega) (by omega) hb (by omega) (fun j hj => by
          rcases Nat.lt_or_ge j ((a + b) / 2) with h | h
          · have := H.rising_at hs h (by omega); omega
          · have : j = (a + b) / 2 := by omega
            subst this; exact c) h2
        simpa using this
      · rw [if_neg c]
        exact ih m a ((a + b) / 2) (by omega) (by omega) (by omega) (by omega) h1 (fun j h3 h4 => by
          rcases Nat.lt_or_ge ((a + b) / 2) j with h | h
          · have := H.rising_at hs h h4; omega
          · have : j = (a + b) / 2 := by omega
            subst this; omega)
theorem in_ev (l : List Int) (v : Int) (hs : l.Pairwise (· < ·)) (hl : l.length ≤ 17592186044416) : ∀ k, l.length < k → lodestarref08_in.f k l v = some (decide (v ∈ l)) := by
  intro k hk
  have := in_l0 l v hs hl l.length k 0 l.length (by omega) (by omega) (by omega) hk (fun j h => by omega) (fun j h1 h2 => by omega)
  simpa [lodestarref08_in.f] using this

theorem inter_l0 (x y : List Int) (hy : y.Pairwise (· < ·)) (hyl : y.length ≤ 17592186044416) (hxl : x.length ≤ 17592186044416) (d : Nat) : ∀ (k i : Nat) (o : List Int), x.length - i = d → i ≤ x.length → d + y.length + 1 < k → o.length + d < 17592186044416 → lodestarref08_Inter.l0 k x y o (i : Int) = some (o ++ (x.drop i).filter fun z => decide (z ∈ y)) := by
  induction d with
  | zero =>
    intro k i o hd hi hk hol
    obtain ⟨m, rfl, _⟩ := round (d := 0) (show 0 < k by omega)
    simp only [lodestarref08_Inter.l0]
    rw [if_neg (by omega), List.drop_eq_nil_of_le (by omega)]; simp
  | succ d ih =>
    intro k i o hd hi hk hol
    obtain ⟨m, rfl, hm⟩ := round hk
    have e1 : wrap64 ((i : Int) + 1) = ((i + 1 : Nat) : Int) := by rw [wrap_in (by omega) (by omega)]; omega
    simp only [lodestarref08_Inter.l0, rd_nat]
    rw [if_pos (by omega), if_pos (by omega), e1, in_ev y _ hy hyl m (by omega), H.drop_at (by omega), List.filter_cons]
    simp only [Option.bind_some]
    by_cases c : x[i]?.getD 0 ∈ y
    · rw [if_pos (by simpa using c), if_pos (by omega), if_pos (by simpa using c), ih m (i + 1) _ (by omega) (by omega) (by omega) (by simp; omega)]
      simp
    · rw [if_neg (by simpa using c), if_neg (by simpa using c), ih m (i + 1) _ (by omega) (by omega) (by omega) (by omega)]
theorem diff_l0 (x y : List Int) (hy : y.Pairwise (· < ·)) (hyl : y.length ≤ 17592186044416) (hxl : x.length ≤ 17592186044416) (d : Nat) : ∀ (k i : Nat) (o : List Int), x.length - i = d → i ≤ x.length → d + y.length + 1 < k → o.length + d < 17592186044416 → lodestarref08_Diff.l0 k x y o (i : Int) = some (o ++ (x.drop i).filter fun z => decide (z ∉ y)) := by
  induction d with
  | zero =>
    intro k i o hd hi hk hol
    obtain ⟨m, rfl, _⟩ := round (d := 0) (show 0 < k by omega)
    simp only [lodestarref08_Diff.l0]
    rw [if_neg (by omega), List.drop_eq_nil_of_le (by omega)]; simp
  | succ d ih =>
    intro k i o hd hi hk hol
    obtain ⟨m, rfl, hm⟩ := round hk
    have e1 : wrap64 ((i : Int) + 1) = ((i + 1 : Nat) : Int) := by rw [wrap_in (by omega) (by omega)]; omega
    simp only [lodestarref08_Diff.l0, rd_nat]
    rw [if_pos (by omega), if_pos (by omega), e1, in_ev y _ hy hyl m (by omega), H.drop_at (by omega), List.filter_cons]
    simp only [Option.bind_some]
    by_cases c : x[i]?.getD 0 ∈ y
    · rw [if_pos (by simpa using c), if_neg (by simpa using c), ih m (i + 1) _ (by omega) (by omega) (by omega) (by omega)]
    · rw [if_neg (by simpa using c), if_pos (by omega), if_pos (by simpa using c), ih m (i + 1) _ (by omega) (by omega) (by omega) (by simp; omega)]
      simp
theorem rinter_ev (a b : List Int) (hl : a.length + b.length < 17592186044416) : Ev (fun k => lodestarref08_Inter.f k a b) (H.someL a b [3]) := by
  unfold lodestarref08_Inter.f
  have h1 := H.setL_le a
  have h2 := H.setL_le b
  refine (set_ev a (by omega)).bind ((set_ev b (by omega)).bind ⟨(H.setL a).length + (H.setL b).length + 2, fun k hk => ?_⟩)
  have := inter_l0 (H.setL a) (H.setL b) (H.setL_rising b) (by omega) (by omega) (H.setL a).length k 0 [] (by omega) (by omega) (by omega) (by simp; omega)
  rw [List.drop_zero, List.nil_append] at this
  refine this.trans ?_
  congr 1
  exact H.rising_ext ((H.setL_rising a).filter _) (H.someL_rising _ _ _) (fun x => by rw [List.mem_filter, H.mem_inter]; simp [H.mem_setL])
theorem rdiff_ev (a b : List Int) (hl : a.length + b.length < 17592186044416) : Ev (fun k => lodestarref08_Diff.f k a b) (H.someL a b [1]) := by
  unfold lodestarref08_Diff.f
  have h1 := H.setL_le a
  have h2 := H.setL_le b
  refine (set_ev a (by omega)).bind ((set_ev b (by omega)).bind ⟨(H.setL a).length + (H.setL b).length + 2, fun k hk => ?_⟩)
  have := diff_l0 (H.setL a) (H.setL b) (H.setL_rising b) (by omega) (by omega) (H.setL a).length k 0 [] (by omega) (by omega) (by omega) (by simp; omega)
  rw [List.drop_zero, List.nil_append] at this
  refine this.trans ?_
  congr 1
  exact H.rising_ext ((H.setL_rising a).filter _) (H.someL_rising _ _ _) (fun x => by rw [List.mem_filter, H.mem_diff]; simp [H.mem_setL])

theorem uni_some (a b : List Int) (h : a.length + b.length < 17592186044416) : ids_Union.f a b = some (H.someL a b [1, 2, 3]) := by unfold ids_Union.f ids_some.f; rw [if_pos h]; rfl
theorem int_some (a b : List Int) (h : a.length + b.length < 17592186044416) : ids_Inter.f a b = some (H.someL a b [3]) := by unfold ids_Inter.f ids_some.f; rw [if_pos h]; rfl
theorem dif_some (a b : List Int) (h : a.length + b.length < 17592186044416) : ids_Diff.f a b = some (H.someL a b [1]) := by unfold ids_Diff.f ids_some.f; rw [if_pos h]; rfl
theorem sets_eq {a b l a' b' l' : List Int} (h : ∀ x, x ∈ H.someL a b l ↔ x ∈ H.someL a' b' l') : H.someL a b l = H.someL a' b' l' := H.rising_ext (H.someL_rising _ _ _) (H.someL_rising _ _ _) h
theorem same_of {a b : List Int} (h : a = b) (hl : a.length ≤ 17592186044416) : Ev (fun k => lodestarlaw08_same.f k a b) true := by subst h; exact same_self a hl

theorem twin_some (l : List Int) (hl : l.length < 17592186044416) : lodestarlaw08_twin.f l = some l := by
  unfold lodestarlaw08_twin.f
  rw [if_pos (by simpa using hl)]
  simp
end Go.Proofs.Ytfhnjdjkchbolaa.PAll
