/- Plain laws of stats.Between at the buckets of sorted values: what it answers encloses how many values lie in the range. No program and no memory. -/
import Derived.Test.YtihanpdfnpgnfaaSBuild
import Derived.Test.YtihanpdfnpgnfaaTJ
import Derived.Test.YtihanpdfnpgnfaaPAllx10
import Derived.Test.YtihanpdfnpgnfaaPAllx11
namespace Go.Proofs.Ytihanpdfnpgnfaa.Pure
open Go.RowKit Go.Proofs.Ytihanpdfnpgnfaa.PAll Go.Proofs.YtihanpdfnpgnfaaW.PrintWords Go.Proofs.YtihanpdfnpgnfaaW.PrintLast Go.Proofs.YtihanpdfnpgnfaaW.PrintMore
set_option linter.unusedVariables false

theorem width_eq {a b : Int} (ha : -9223372036854775808 ≤ a) (ha' : a < 9223372036854775808) (hb : -9223372036854775808 ≤ b) (hb' : b < 9223372036854775808) (h : a ≤ b) :
    stats_width.f a b = some (if b - a + 1 < 9223372036854775808 then (b - a + 1, true) else (wrap64 (b - a + 1), false)) := by
  unfold stats_width.f stats_sub.f
  simp only [Option.bind_some]
  by_cases h1 : b - a < 9223372036854775808
  · have e : wrap64 (b - a) = b - a := w64 (by omega) h1
    rw [e]
    have e2 : (decide (b - a < b) == decide (a > 0)) = true := by
      rw [beq_iff_eq]
      by_cases h0 : a > 0
      · rw [decide_eq_true h0, decide_eq_true (by omega)]
      · rw [decide_eq_false h0, decide_eq_false (by omega)]
    rw [if_pos e2]
    by_cases h2 : b - a + 1 < 9223372036854775808
    · rw [if_pos h2, w64 (by omega) h2, decide_eq_true (by omega)]
    · rw [if_neg h2, decide_eq_false (by omega)]
  · have e : wrap64 (b - a) = b - a - 18446744073709551616 := by unfold wrap64; omega
    rw [e]
    have e2 : (decide (b - a - 18446744073709551616 < b) == decide (a > 0)) = false := by
      rw [decide_eq_true (by omega), decide_eq_false (by omega)]; rfl
    rw [if_neg (by rw [e2]; decide), if_neg (by omega)]
    congr 2
    unfold wrap64; omega
theorem half {c : Int} (h : 0 ≤ c) (hc : c < 9223372036854775808) : 0 ≤ wrap64 (Int.tdiv c 2) ∧ wrap64 (Int.tdiv c 2) ≤ c := by
  rw [Int.tdiv_eq_ediv_of_nonneg h, w64 (by omega) (by omega)]; omega
theorem share_ex {f0 f1 f2 f3 lo hi : Int} (h0 : -9223372036854775808 ≤ f0) (h0' : f0 ≤ f1) (h1 : f1 < 9223372036854775808) (h2 : 0 ≤ f2) (h2' : f2 < 9223372036854775808)
    (hl : -9223372036854775808 ≤ lo) (hh : hi < 9223372036854775808) (hlh : lo ≤ hi) (ha : lo ≤ f1) (hb : f0 ≤ hi) {k : Nat} (hk : 1 ≤ k) :
    ∃ t, stats_share.f k f0 f1 f2 f3 lo hi = some t ∧ 0 ≤ t ∧ t ≤ f2 := by
  obtain ⟨k, rfl⟩ : ∃ m, k = m + 1 := ⟨k - 1, by omega⟩
  unfold stats_share.f
  rw [mx_max, mn_min, width_eq (by omega) (by omega) (by omega) (by omega) (by omega), width_eq (by omega) (by omega) (by omega) (by omega) (by omega)]
  have hhalf := half h2 h2'
  simp only [Option.bind_some, stats_share.j0]
  by_cases c1 : min f1 hi - max f0 lo + 1 < 9223372036854775808
  · by_cases c2 : f1 - f0 + 1 < 9223372036854775808
    · rw [if_pos c1, if_pos c2]
      simp only [if_true, Bool.not_true, Bool.false_eq_true, if_false]
      rw [mul_eq h2 h2' (by omega) c1]
      simp only [Option.bind_some]
      by_cases c3 : f2 * (min f1 hi - max f0 lo + 1) < 9223372036854775808
      · rw [mulS_1 c3]
        simp only [if_true]
        rw [if_neg (by omega)]
        have hm : 0 ≤ f2 * (min f1 hi - max f0 lo + 1) := Int.mul_nonneg h2 (by omega)
        have hd : f2 * (min f1 hi - max f0 lo + 1) / (f1 - f0 + 1) ≤ f2 := Int.ediv_le_of_le_mul (by omega) (Int.mul_le_mul_of_nonneg_left (by omega) h2)
        have hd0 : 0 ≤ f2 * (min f1 hi - max f0 lo + 1) / (f1 - f0 + 1) := Int.ediv_nonneg hm (by omega)
        rw [Int.tdiv_eq_ediv_of_nonneg hm, w64 (by omega) (by omega)]
        exact ⟨_, rfl, hd0, hd⟩
      · rw [mulS_2 c3]
        exact ⟨_, rfl, hhalf⟩
    · rw [if_pos c1, if_neg c2]
      exact ⟨_, rfl, hhalf⟩
  · rw [if_neg c1]
    simp only [Bool.false_eq_true, if_false, if_true]
    exact ⟨_, rfl, hhalf⟩

/-- How many of a list lie in a range. -/
def inR (lo hi x : Int) : Bool := decide (lo ≤ x) && decide (x ≤ hi)
def cntR (lo hi : Int) (l : List Int) : Int := ((l.countP (inR lo hi) : Nat) : Int)
theorem cntR_app (lo hi : Int) (a b : List Int) : cntR lo hi (a ++ b) = cntR lo hi a + cntR lo hi b := by unfold cntR; rw [List.countP_append]; omega
theorem cntR_le (lo hi : Int) (a : List Int) : 0 ≤ cntR lo hi a ∧ cntR lo hi a ≤ a.length := by
  unfold cntR; have := List.countP_le_length (p := inR lo hi) (l := a); omega
theorem cntR_none {lo hi : Int} {a : List Int} (h : ∀ x ∈ a, x < lo ∨ hi < x) : cntR lo hi a = 0 := by
  unfold cntR
  rw [List.countP_eq_zero.2]
  · rfl
  · intro x hx; have := h x hx; simp only [inR, Bool.and_eq_true, decide_eq_true_eq]; omega
theorem cntR_all {lo hi : Int} {a : List Int} (h : ∀ x ∈ a, lo ≤ x ∧ x ≤ hi) : cntR lo hi a = a.length := by
  unfold cntR
  rw [List.countP_eq_length.2]
  intro x hx; have := h x hx; simp only [inR, Bool.and_eq_true, decide_eq_true_eq]; omega
theorem cntR_perm {lo hi : Int} {a b : List Int} (h : a.Perm b) : cntR lo hi a = cntR lo hi b := by unfold cntR; rw [h.countP_eq]
theorem cntR_succ {l : List Int} {lo hi : Int} {i : Nat} (h : i < l.length) : cntR lo hi (l.take (i + 1)) = cntR lo hi (l.take i) + (if inR lo hi (rd l (i : Int)) then 1 else 0) := by
  have e : rd l (i : Int) = l[i] := by unfold rd; simp [h]
  rw [e, List.take_succ_eq_append_getElem h, cntR_app]
  congr 1
  unfold cntR
  simp only [List.countP_cons, List.countP_nil]
  split <;> simp
theorem cntR_nil {lo hi : Int} : cntR lo hi [] = 0 := rfl
attribute [local irreducible] cntR
theorem sorted_ends {p : List Int} (hs : p.Pairwise (· ≤ ·)) (h0 : 0 < p.length) : (∀ x ∈ p, rd p 0 ≤ x ∧ x ≤ rd p ((p.length : Int) - 1)) ∧ rd p 0 ∈ p ∧ rd p ((p.length : Int) - 1) ∈ p := by
  have e0 : rd p 0 = p[0] := by unfold rd; simp [h0]
  have e1 : rd p ((p.length : Int) - 1) = p[p.length - 1] := by
    unfold rd
    have : ((p.length : Int) - 1).toNat = p.length - 1 := by omega
    rw [this, List.getD_eq_getElem?_getD, List.getElem?_eq_getElem (by omega)]; rfl
  rw [e0, e1]
  refine ⟨fun x hx => ?_, List.getElem_mem _, List.getElem_mem _⟩
  obtain ⟨i, hi, rfl⟩ := List.getElem_of_mem hx
  have hp := List.pairwise_iff_getElem.1 hs
  constructor
  · rcases Nat.eq_zero_or_pos i with h | h
    · subst h; exact Int.le_refl _
    · exact hp 0 i h0 hi h
  · rcases Nat.lt_or_ge i (p.length - 1) with h | h
    · exact hp i (p.length - 1) hi (by omega) h
    · have : i = p.length - 1 := by omega
      subst this; exact Int.le_refl _

theorem cut_next {ls : List Int} {b i : Nat} (hb : 0 < b) : ls.take ((i + 1) * ls.length / b) = ls.take (i * ls.length / b) ++ H.partOf ls b i := by
  unfold H.partOf
  have h : i * ls.length / b ≤ (i + 1) * ls.length / b := Nat.div_le_div_right (Nat.mul_le_mul_right _ (by omega))
  generalize i * ls.length / b = f at h ⊢
  generalize (i + 1) * ls.length / b = t at h ⊢
  obtain ⟨d, rfl⟩ : ∃ d, t = f + d := ⟨t - f, by omega⟩
  rw [Nat.add_sub_cancel_left, List.take_add]

theorem cut_pos {ls : List Int} {b i : Nat} (hb : 0 < b) (hbn : b ≤ ls.length) (hi : i < b) : 0 < (H.partOf ls b i).length := by
  unfold H.partOf
  have hft : i * ls.length / b < (i + 1) * ls.length / b := by rw [Nat.add_mul, Nat.one_mul]; exact H.cut_lt hb hbn
  have htn : (i + 1) * ls.length / b ≤ ls.length := by
    apply Nat.div_le_of_le_mul
    exact Nat.mul_le_mul_right _ (by omega)
  rw [List.length_take, List.length_drop]; omega
theorem part_sub {ls : List Int} {b i : Nat} : (H.partOf ls b i).Sublist ls := (List.take_sublist _ _).trans (List.drop_sublist _ _)

/-- The buckets, as one list of b pieces. -/
def bl (ls : List Int) (b : Nat) : List S36 := (List.range b).map fun j => H.bkt (H.partOf ls b j)
theorem bl_len (ls : List Int) (b : Nat) : (bl ls b).length = b := by simp [bl]
theorem bl_rd {ls : List Int} {b i : Nat} (h : i < b) : rd_T36 (bl ls b) (i : Int) = H.bkt (H.partOf ls b i) := by
  unfold rd_T36 bl
  simp [h]
theorem between_l0 {ls : List Int} {b : Nat} {lo hi : Int} (hs : ls.Pairwise (· ≤ ·)) (hb : 0 < b) (hbn : b ≤ ls.length) (hn : ls.length ≤ 1048576) (hr : ∀ x ∈ ls, -9223372036854775808 ≤ x ∧ x < 9223372036854775808)
    (hl : -9223372036854775808 ≤ lo) (hh : hi < 9223372036854775808) (hlh : lo ≤ hi) (d : Nat) : ∀ (k i : Nat), i ≤ b → b - i = d → 2 * d + 2 < k → ∀ (L T M : Int), 0 ≤ L → L ≤ T → T ≤ M → L ≤ cntR lo hi (ls.take (i * ls.length / b)) → cntR lo hi (ls.take (i * ls.length / b)) ≤ M → M ≤ (ls.take (i * ls.length / b)).length →
      ∃ L' T' M', stats_Between.l0 k lo hi L T M (bl ls b) (b : Int) (i : Int) = some (L', T', M') ∧ 0 ≤ L' ∧ L' ≤ T' ∧ T' ≤ M' ∧ L' ≤ cntR lo hi ls ∧ cntR lo hi ls ≤ M' ∧ M' ≤ ls.length ∧
        ((∀ x ∈ ls, lo ≤ x ∧ x ≤ hi) → L = (ls.take (i * ls.length / b)).length → L' = ls.length) := by
  induction d with
  | zero =>
    intro k i hi0 hd hk L T M h0 h1 h2 h3 h4 h5
    obtain ⟨k, rfl⟩ : ∃ m, k = m + 1 := ⟨k - 1, by omega⟩
    have : i = b := by omega
    subst this
    rw [Nat.mul_comm, Nat.mul_div_cancel _ hb, List.take_length] at h3 h4 h5
    simp only [stats_Between.l0]
    rw [if_neg (by omega)]
    refine ⟨L, T, M, rfl, h0, h1, h2, h3, h4, h5, fun _ h => ?_⟩
    rw [h, Nat.mul_comm, Nat.mul_div_cancel _ hb, List.take_length]
  | succ d ih =>
    intro k i hi0 hd hk L T M h0 h1 h2 h3 h4 h5
    obtain ⟨k, rfl⟩ : ∃ m, k = m + 1 + 1 := ⟨k - 2, by omega⟩
    replace ih := ih k (i + 1) (by omega) (by omega) (by omega)
    rw [cut_next hb] at ih
    have hp0 := cut_pos (ls := ls) hb hbn (show i < b by omega)
    have hps : (H.partOf ls b i).Pairwise (· ≤ ·) := hs.sublist part_sub
    obtain ⟨he, hm0, hm1⟩ := sorted_ends hps hp0
    have hpl : (H.partOf ls b i).length ≤ ls.length := part_sub.length_le
    have hr0 := hr _ (part_sub.subset hm0)
    have hr1 := hr _ (part_sub.subset hm1)
    have hle := (he _ hm0).2
    have htl : (ls.take (i * ls.length / b)).length + (H.partOf ls b i).length ≤ ls.length := by
      have := congrArg List.length (cut_next (ls := ls) (i := i) hb)
      rw [List.length_append] at this
      rw [← this, List.length_take]; omega
    have hall : (∀ x ∈ ls, lo ≤ x ∧ x ≤ hi) → lo ≤ rd (H.partOf ls b i) 0 ∧ rd (H.partOf ls b i) (((H.partOf ls b i).length : Int) - 1) ≤ hi := fun h => ⟨(h _ (part_sub.subset hm0)).1, (h _ (part_sub.subset hm1)).2⟩
    simp only [stats_Between.l0]
    rw [if_pos (by omega), if_pos (by omega), if_pos (by rw [bl_len]; omega), bl_rd (by omega)]
    simp only [stats_Between.j1]
    rw [show (H.bkt (H.partOf ls b i)).f0 = rd (H.partOf ls b i) 0 from rfl, show (H.bkt (H.partOf ls b i)).f1 = rd (H.partOf ls b i) (((H.partOf ls b i).length : Int) - 1) from rfl, show (H.bkt (H.partOf ls b i)).f2 = ((H.partOf ls b i).length : Int) from rfl, show (H.bkt (H.partOf ls b i)).f3 = H.kindsUp (H.partOf ls b i) (H.partOf ls b i).length from rfl]
    rw [show wrap64 ((i : Int) + 1) = ((i + 1 : Nat) : Int) by (clear h0 h1 h2 h3 h4 h5 ih htl hle hr0 hr1; unfold wrap64; omega)]
    rw [if_neg (by omega), if_neg (by omega)]
    generalize H.partOf ls b i = p at *
    generalize ls.take (i * ls.length / b) = q at *
    have hc := cntR_le lo hi p
    simp only [cntR_app, List.length_append] at ih
    by_cases c1 : rd p ((p.length : Int) - 1) < lo
    · rw [if_pos c1]
      simp only [if_true]
      have hz : cntR lo hi p = 0 := cntR_none fun x hx => Or.inl (by have := (he x hx).2; omega)
      obtain ⟨L', T', M', e, g⟩ := ih L T M h0 h1 h2 (by omega) (by omega) (by omega)
      refine ⟨L', T', M', e, g.1, g.2.1, g.2.2.1, g.2.2.2.1, g.2.2.2.2.1, g.2.2.2.2.2.1, fun ha _ => ?_⟩
      have := hall ha; omega
    · rw [if_neg c1]
      simp only [decide_eq_true_eq]
      by_cases c2 : rd p 0 > hi
      · rw [if_pos c2]
        have hz : cntR lo hi p = 0 := cntR_none fun x hx => Or.inr (by have := (he x hx).1; omega)
        obtain ⟨L', T', M', e, g⟩ := ih L T M h0 h1 h2 (by omega) (by omega) (by omega)
        refine ⟨L', T', M', e, g.1, g.2.1, g.2.2.1, g.2.2.2.1, g.2.2.2.2.1, g.2.2.2.2.2.1, fun ha _ => ?_⟩
        have := hall ha; omega
      · rw [if_neg c2]
        by_cases c3 : rd p 0 ≥ lo ∧ rd p ((p.length : Int) - 1) ≤ hi
        · rw [if_pos c3.1, if_pos c3.2, w64 (by omega) (by omega), w64 (by omega) (by omega), w64 (by omega) (by omega)]
          have hz : cntR lo hi p = p.length := cntR_all fun x hx => by have := he x hx; omega
          obtain ⟨L', T', M', e, g⟩ := ih (L + p.length) (T + p.length) (M + p.length) (by omega) (by omega) (by omega) (by omega) (by omega) (by omega)
          refine ⟨L', T', M', e, g.1, g.2.1, g.2.2.1, g.2.2.2.1, g.2.2.2.2.1, g.2.2.2.2.2.1, fun ha hL => g.2.2.2.2.2.2 ha (by omega)⟩
        · obtain ⟨t, et, ht0, ht1⟩ := share_ex (f0 := rd p 0) (f1 := rd p ((p.length : Int) - 1)) (f2 := p.length) (f3 := H.kindsUp p p.length) (lo := lo) (hi := hi) hr0.1 hle hr1.2 (by omega) (by omega) hl hh hlh (by omega) (by omega) (show 1 ≤ k by omega)
          obtain ⟨L', T', M', e, g⟩ := ih L (T + t) (M + p.length) h0 (by omega) (by omega) (by omega) (by omega) (by omega)
          have G : ∃ L' T' M', (stats_Between.l0 k lo hi L (wrap64 (T + t)) (wrap64 (M + p.length)) (bl ls b) (b : Int) ((i + 1 : Nat) : Int)) = some (L', T', M') ∧ 0 ≤ L' ∧ L' ≤ T' ∧ T' ≤ M' ∧ L' ≤ cntR lo hi ls ∧ cntR lo hi ls ≤ M' ∧ M' ≤ ls.length ∧ ((∀ x ∈ ls, lo ≤ x ∧ x ≤ hi) → L = q.length → L' = ls.length) := by
            rw [w64 (by omega) (by omega), w64 (by omega) (by omega)]
            refine ⟨L', T', M', e, g.1, g.2.1, g.2.2.1, g.2.2.2.1, g.2.2.2.2.1, g.2.2.2.2.2.1, fun ha _ => ?_⟩
            have := hall ha; omega
          by_cases c4 : rd p 0 ≥ lo
          · rw [if_pos c4, if_neg (by omega), et]
            exact G
          · rw [if_neg c4, et]
            exact G

theorem bks_bl (l : List Int) (n : Int) (h : 0 < l.length) : ∃ b : Nat, 0 < b ∧ b ≤ l.length ∧ H.bks l n = bl (l.mergeSort fun x y => decide (x ≤ y)) b := by
  refine ⟨(max 1 (min n (l.length : Int))).toNat, by omega, by omega, ?_⟩
  unfold H.bks bl
  rw [if_neg (by omega)]
theorem between_law {l : List Int} {n lo hi : Int} (hn : l.length ≤ 1048576) (hr : ∀ x ∈ l, -9223372036854775808 ≤ x ∧ x < 9223372036854775808) (hl : -9223372036854775808 ≤ lo) (hh : hi < 9223372036854775808) (cnt : Int) (es : List S41) {k : Nat} (hk : 2097160 ≤ k) :
    ∃ L T M, stats_Between.f k cnt (H.bks l n) es lo hi = some (L, T, M) ∧ 0 ≤ L ∧ L ≤ T ∧ T ≤ M ∧ L ≤ cntR lo hi l ∧ cntR lo hi l ≤ M ∧ M ≤ l.length ∧ ((∀ x ∈ l, lo ≤ x ∧ x ≤ hi) → lo ≤ hi → L = l.length) := by
  unfold stats_Between.f
  by_cases hlh : lo > hi
  · rw [if_pos hlh]
    have : cntR lo hi l = 0 := cntR_none fun x _ => by omega
    exact ⟨0, 0, 0, rfl, by omega, by omega, by omega, by omega, by omega, by omega, fun _ h => by omega⟩
  rw [if_neg hlh]
  by_cases h0 : 0 < l.length
  · obtain ⟨b, hb, hbn, e⟩ := bks_bl l n h0
    have hp := List.mergeSort_perm l (fun x y => decide (x ≤ y))
    have hs : (l.mergeSort fun x y => decide (x ≤ y)).Pairwise (· ≤ ·) := by
      have := List.pairwise_mergeSort (le := fun x y : Int => decide (x ≤ y)) (by intro a b c; simp; omega) (by intro a b; simp; omega) l
      exact this.imp (by simp)
    have hln := hp.length_eq
    obtain ⟨L, T, M, ef, g⟩ := between_l0 hs hb (by omega) (by omega) (fun x hx => hr x (hp.mem_iff.1 hx)) hl hh (by omega) b k 0 (by omega) (by omega) (by omega) 0 0 0 (by omega) (by omega) (by omega) (by simp [cntR_nil]) (by simp [cntR_nil]) (by simp)
    rw [cntR_perm hp, hln] at g
    rw [e, bl_len]
    exact ⟨L, T, M, ef, g.1, g.2.1, g.2.2.1, g.2.2.2.1, g.2.2.2.2.1, g.2.2.2.2.2.1, fun ha _ => g.2.2.2.2.2.2 (fun x hx => ha x (hp.mem_iff.1 hx)) (by simp)⟩
  · have e : l = [] := List.eq_nil_of_length_eq_zero (by omega)
    subst e
    obtain ⟨k, rfl⟩ : ∃ m, k = m + 1 := ⟨k - 1, by omega⟩
    exact ⟨0, 0, 0, by simp [H.bks, stats_Between.l0], by omega, by omega, by omega, by simp [cntR_nil], by simp [cntR_nil], by simp, fun _ _ => by simp⟩
/-- The counts of the first i buckets. -/
def sumB (bs : List S36) : Nat → Int
  | 0 => 0
  | i + 1 => sumB bs i + (rd_T36 bs (i : Int)).f2
theorem sumB_bl {ls : List Int} {b : Nat} (hb : 0 < b) : ∀ i, i ≤ b → sumB (bl ls b) i = (ls.take (i * ls.length / b)).length
  | 0, _ => by simp [sumB]
  | i + 1, h => by
    rw [sumB, sumB_bl hb i (by omega), bl_rd (by omega), cut_next hb, List.length_append]
    simp [H.bkt]
theorem sumB_b {l : List Int} {n : Int} (hn : l.length ≤ 1048576) : (H.bks l n).length ≤ 1048576 ∧ sumB (H.bks l n) (H.bks l n).length = l.length ∧ ∀ i, i ≤ (H.bks l n).length → 0 ≤ sumB (H.bks l n) i ∧ sumB (H.bks l n) i ≤ l.length := by
  by_cases h0 : 0 < l.length
  · obtain ⟨b, hb, hbn, e⟩ := bks_bl l n h0
    have hln := (List.mergeSort_perm l (fun x y => decide (x ≤ y))).length_eq
    rw [e, bl_len]
    refine ⟨by omega, ?_, fun i hi => ?_⟩
    · rw [sumB_bl hb b (Nat.le_refl _), Nat.mul_comm, Nat.mul_div_cancel _ hb, List.take_length, hln]
    · rw [sumB_bl hb i hi, List.length_take]
      have h1 := Nat.min_le_right (i * (l.mergeSort fun x y => decide (x ≤ y)).length / b) (l.mergeSort fun x y => decide (x ≤ y)).length
      generalize min (i * (l.mergeSort fun x y => decide (x ≤ y)).length / b) (l.mergeSort fun x y => decide (x ≤ y)).length = z at h1 ⊢
      omega
  · have e : l = [] := List.eq_nil_of_length_eq_zero (by omega)
    subst e
    have : H.bks [] n = [] := by simp [H.bks]
    rw [this]
    exact ⟨by simp, rfl, fun i hi => by have : i = 0 := by simpa using hi
                                        subst this; simp [sumB]⟩
end Go.Proofs.Ytihanpdfnpgnfaa.Pure
