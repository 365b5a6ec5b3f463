/- Plain laws of stats.And, stats.Or and of the reference's: what they come to, and between which bounds it lies. No program and no memory. -/
import Derived.Test.YtihanpdfnpgnfaaPAllx10
import Derived.Test.YtihanpdfnpgnfaaPAllx11
namespace Go.Proofs.Ytihanpdfnpgnfaa.Pure
open Go.RowKit Go.Proofs.Ytihanpdfnpgnfaa.PAll Go.Proofs.YtihanpdfnpgnfaaW.PrintWords Go.Proofs.YtihanpdfnpgnfaaW.PrintLast Go.Proofs.YtihanpdfnpgnfaaW.PrintMore
set_option linter.unusedVariables false

theorem w64 {x : Int} (h0 : -9223372036854775808 ≤ x) (h1 : x < 9223372036854775808) : wrap64 x = x := by unfold wrap64; omega
theorem mx_max (a b : Int) : mx a b = max a b := by unfold mx; omega
theorem mn_min (a b : Int) : mn a b = min a b := by unfold mn; omega
def clampS (t x : Int) : Int := max 0 (min x t)
def bothS (a b t : Int) : Int := if t = 0 then 0 else if a * b < 9223372036854775808 then a * b / t else a / t * b
def foldS (t : Int) (l : List Int) (n : Int) : Int := l.foldl (fun n x => bothS n (clampS t x) t) n
theorem clamp_b {t : Int} (ht : 0 ≤ t) (x : Int) : 0 ≤ clampS t x ∧ clampS t x ≤ t := by unfold clampS; omega
theorem both_b {a b t : Int} (ha : 0 ≤ a) (hat : a ≤ t) (hb : 0 ≤ b) (hbt : b ≤ t) : 0 ≤ bothS a b t ∧ bothS a b t ≤ a ∧ bothS a b t ≤ b := by
  unfold bothS
  split
  · omega
  · next h =>
    have ht : 0 < t := by omega
    split
    · have h1 : a * b ≤ a * t := Int.mul_le_mul_of_nonneg_left hbt ha
      have h2 : a * b ≤ b * t := by rw [Int.mul_comm]; exact Int.mul_le_mul_of_nonneg_left hat hb
      exact ⟨Int.ediv_nonneg (Int.mul_nonneg ha hb) (by omega), Int.ediv_le_of_le_mul ht h1, Int.ediv_le_of_le_mul ht h2⟩
    · by_cases e : a = t
      · rw [e, Int.ediv_self (by omega)]; omega
      · rw [Int.ediv_eq_zero_of_lt ha (by omega)]; omega
theorem mul_eq {a b : Int} (ha : 0 ≤ a) (ha' : a < 9223372036854775808) (hb : 0 ≤ b) (hb' : b < 9223372036854775808) : num_Mul.f a b = some (H.mulS a b) := by
  unfold num_Mul.f
  rw [if_pos ha, if_pos ha', if_pos hb, if_pos hb']
theorem rmul_eq {a b : Int} (ha : 0 ≤ a) (ha' : a < 9223372036854775808) (hb : 0 ≤ b) (hb' : b < 9223372036854775808) {k : Nat} (hk : 2 ≤ k) : lodestarref01_Mul.f k a b = some (H.mulS a b) := by
  obtain ⟨k, rfl⟩ : ∃ m, k = m + 2 := ⟨k - 2, by omega⟩
  unfold lodestarref01_Mul.f H.mulS
  by_cases a0 : a = 0
  · rw [if_pos a0]; simp only [lodestarref01_Mul.j0]; rw [if_pos trivial, a0]; simp
  · rw [if_neg a0]
    simp only [lodestarref01_Mul.j0]
    by_cases b0 : b = 0
    · rw [if_pos (by simp [b0]), b0]; simp
    · rw [if_neg (by simp [b0]), if_neg (by omega), if_neg (by omega)]
      simp only [lodestarref01_Mul.j1]
      rw [if_neg (by simp), if_neg b0]
      have hp : 0 ≤ a * b := Int.mul_nonneg ha hb
      by_cases h : a * b < 9223372036854775808
      · have hw : wrap64 (a * b) = a * b := w64 (by omega) h
        rw [hw, Int.tdiv_eq_ediv_of_nonneg hp, Int.mul_ediv_cancel _ b0, w64 (by omega) ha', if_pos rfl, if_pos h]
      · rw [if_neg h, if_neg]
        intro he
        have hwb : wrap64 (a * b) < 9223372036854775808 ∧ -9223372036854775808 ≤ wrap64 (a * b) := by unfold wrap64; omega
        generalize wrap64 (a * b) = w at he hwb
        by_cases hw0 : 0 ≤ w
        · have h1 : w.tdiv b = w / b := Int.tdiv_eq_ediv_of_nonneg hw0
          have h2 : w / b ≤ w := Int.ediv_le_self _ hw0
          have h3 : 0 ≤ w / b := Int.ediv_nonneg hw0 hb
          rw [h1, w64 (by omega) (by omega)] at he
          have h4 : w / b * b ≤ w := Int.ediv_mul_le _ b0
          rw [he] at h4
          omega
        · have h1 : w.tdiv b ≤ 0 := by
            have : (-w).tdiv b = -(w.tdiv b) := Int.neg_tdiv _ _
            have h2 : 0 ≤ (-w).tdiv b := Int.tdiv_nonneg (by omega) hb
            omega
          have h5 : -9223372036854775808 ≤ w.tdiv b := by
            have e1 : (-w).tdiv b = -(w.tdiv b) := Int.neg_tdiv _ _
            have e2 : (-w).tdiv b = (-w) / b := Int.tdiv_eq_ediv_of_nonneg (by omega)
            have e3 : (-w) / b ≤ -w := Int.ediv_le_self _ (by omega)
            omega
          rw [w64 (by omega) (by omega)] at he
          omega
theorem mulS_1 {a b : Int} (h : a * b < 9223372036854775808) : H.mulS a b = (a * b, 0) := by unfold H.mulS; rw [if_pos h]
theorem mulS_2 {a b : Int} (h : ¬ a * b < 9223372036854775808) : H.mulS a b = (0, 10) := by unfold H.mulS; rw [if_neg h]
theorem over_t {a b t : Int} (ha : 0 ≤ a) (hat : a ≤ t) (hb : 0 ≤ b) (hbt : b ≤ t) (h : a * b < 9223372036854775808) (ht : 0 < t) : wrap64 ((a * b).tdiv t) = a * b / t := by
  have hp : 0 ≤ a * b := Int.mul_nonneg ha hb
  have h3 : 0 ≤ a * b / t := Int.ediv_nonneg hp (by omega)
  have h2 : a * b / t ≤ a * b := Int.ediv_le_self _ hp
  rw [Int.tdiv_eq_ediv_of_nonneg hp, w64 (by omega) (by omega)]
theorem over_t2 {a b t : Int} (ha : 0 ≤ a) (hat : a ≤ t) (hb : 0 ≤ b) (hbt : b ≤ t) (ht : 0 < t) (ht' : t < 9223372036854775808) : wrap64 ((wrap64 (a.tdiv t)) * b) = a / t * b := by
  rw [Int.tdiv_eq_ediv_of_nonneg ha]
  by_cases e : a = t
  · rw [e, Int.ediv_self (by omega)]
    rw [show wrap64 1 = 1 from w64 (by omega) (by omega), Int.one_mul, w64 (by omega) (by omega)]
  · rw [Int.ediv_eq_zero_of_lt ha (by omega)]
    rw [show wrap64 0 = 0 from w64 (by omega) (by omega), Int.zero_mul]
    exact w64 (by omega) (by omega)
theorem both_eq {a b t : Int} (ha : 0 ≤ a) (hat : a ≤ t) (hb : 0 ≤ b) (hbt : b ≤ t) (ht : t < 9223372036854775808) : stats_both.f a b t = some (bothS a b t) := by
  unfold stats_both.f bothS
  by_cases h0 : t = 0
  · rw [if_pos h0, if_pos h0]
  · rw [if_neg h0, if_neg h0, mul_eq ha (by omega) hb (by omega)]
    simp only [Option.bind_some]
    by_cases h : a * b < 9223372036854775808
    · rw [mulS_1 h, if_pos rfl, if_pos h, over_t ha hat hb hbt h (by omega)]
    · rw [mulS_2 h, if_neg (by decide), if_neg h, over_t2 ha hat hb hbt (by omega) ht]
theorem drop_at {l : List Int} {i : Nat} (h : i < l.length) : l.drop i = rd l i :: l.drop (i + 1) := by
  rw [List.drop_eq_getElem_cons h]
  have : rd l (i : Int) = l[i] := by unfold rd; simp [h]
  rw [this]
theorem foldS_b {t : Int} (ht : 0 ≤ t) (l : List Int) : ∀ n, 0 ≤ n → n ≤ t → 0 ≤ foldS t l n ∧ foldS t l n ≤ n ∧ ∀ x ∈ l, foldS t l n ≤ clampS t x := by
  induction l with
  | nil => intro n h0 h1; exact ⟨h0, Int.le_refl _, by simp⟩
  | cons a r ih =>
    intro n h0 h1
    obtain ⟨c0, c1⟩ := clamp_b ht a
    obtain ⟨b0, b1, b2⟩ := both_b h0 h1 c0 c1
    obtain ⟨i0, i1, i2⟩ := ih (bothS n (clampS t a) t) b0 (by omega)
    have e : foldS t (a :: r) n = foldS t r (bothS n (clampS t a) t) := rfl
    rw [e]
    refine ⟨i0, by omega, fun x hx => ?_⟩
    rcases List.mem_cons.1 hx with rfl | hx
    · omega
    · exact i2 x hx
theorem and_l0 {t : Int} (ht : 0 ≤ t) (ht' : t < 9223372036854775808) (l : List Int) (hl : l.length ≤ 17592186044416) (d : Nat) : ∀ (k i : Nat) (n : Int), i ≤ l.length → l.length - i = d → d < k → 0 ≤ n → n ≤ t → stats_And.l0 k t n l (l.length : Int) (i : Int) = some (foldS t (l.drop i) n) := by
  induction d with
  | zero =>
    intro k i n hi hd hk h0 h1
    obtain ⟨k, rfl⟩ : ∃ m, k = m + 1 := ⟨k - 1, by omega⟩
    simp only [stats_And.l0]
    rw [if_neg (by omega), List.drop_eq_nil_of_le (by omega)]
    rfl
  | succ d ih =>
    intro k i n hi hd hk h0 h1
    obtain ⟨k, rfl⟩ : ∃ m, k = m + 1 := ⟨k - 1, by omega⟩
    have hw : wrap64 ((i : Int) + 1) = ((i + 1 : Nat) : Int) := by unfold wrap64; omega
    simp only [stats_And.l0]
    obtain ⟨c0, c1⟩ := clamp_b ht (rd l i)
    obtain ⟨b0, b1, b2⟩ := both_b h0 h1 c0 c1
    have ec : mx 0 (mn (rd l i) t) = clampS t (rd l i) := by rw [mx_max, mn_min]; rfl
    rw [if_pos (by omega), if_pos (by omega), if_pos (by omega), ec, both_eq h0 h1 c0 c1 ht']
    simp only [Option.bind_some]
    rw [hw, ih k (i + 1) _ (by omega) (by omega) (by omega) b0 (by omega), drop_at (show i < l.length by omega)]
    rfl
def andS (t : Int) (l : List Int) : Int := foldS (max 0 t) l (max 0 t)
theorem and_eq {t : Int} (ht : t < 9223372036854775808) (l : List Int) (hl : l.length ≤ 17592186044416) {k : Nat} (hk : l.length < k) : stats_And.f k t l = some (andS t l) := by
  unfold stats_And.f andS
  rw [mx_max]
  exact and_l0 (by omega) (by omega) l hl l.length k 0 _ (by omega) (by omega) hk (by omega) (Int.le_refl _)
def othersS (t : Int) (l : List Int) : List Int := l.map fun x => t - clampS t x
theorem clamp_id {t x : Int} (h0 : 0 ≤ x) (h1 : x ≤ t) : clampS t x = x := by unfold clampS; omega
def orS (t : Int) (l : List Int) : Int := max 0 t - andS (max 0 t) (othersS (max 0 t) l)
theorem take_snoc {α : Type} {l : List Int} {i : Nat} (f : Int → α) (h : i < l.length) : ((l.map f).take i) ++ [f (rd l i)] = (l.map f).take (i + 1) := by
  rw [List.take_succ_eq_append_getElem (by simpa using h), List.getElem_map]
  have : rd l (i : Int) = l[i] := by unfold rd; simp [h]
  rw [this]
theorem and_b {t : Int} (l : List Int) : 0 ≤ andS t l ∧ andS t l ≤ max 0 t ∧ ∀ x ∈ l, andS t l ≤ clampS (max 0 t) x := foldS_b (by omega) l _ (by omega) (Int.le_refl _)
theorem or_l0 {t : Int} (ht : 0 ≤ t) (ht' : t < 9223372036854775808) (l : List Int) (hl : l.length < 17592186044416) (d : Nat) : ∀ (k i : Nat), i ≤ l.length → l.length - i = d → d + l.length + 1 < k →
    stats_Or.l0 k t ((othersS t l).take i) l (l.length : Int) (i : Int) = some (t - andS t (othersS t l)) := by
  induction d with
  | zero =>
    intro k i hi hd hk
    obtain ⟨k, rfl⟩ : ∃ m, k = m + 1 := ⟨k - 1, by omega⟩
    have hol : (othersS t l).length = l.length := by simp [othersS]
    simp only [stats_Or.l0]
    rw [if_neg (by omega), List.take_of_length_le (by omega), and_eq ht' _ (by omega) (by omega)]
    simp only [Option.bind_some]
    have := and_b (t := t) (othersS t l)
    rw [w64 (by omega) (by omega)]
  | succ d ih =>
    intro k i hi hd hk
    obtain ⟨k, rfl⟩ : ∃ m, k = m + 1 := ⟨k - 1, by omega⟩
    have hw : wrap64 ((i : Int) + 1) = ((i + 1 : Nat) : Int) := by unfold wrap64; omega
    have ec : mx 0 (mn (rd l i) t) = clampS t (rd l i) := by rw [mx_max, mn_min]; rfl
    have hc := clamp_b ht (rd l i)
    have hol : ((othersS t l).take i).length = i := by simp [othersS]; omega
    simp only [stats_Or.l0]
    rw [if_pos (by omega), if_pos (by omega), if_pos (by omega), if_pos (by omega), ec, w64 (x := t - _) (by omega) (by omega), hw]
    have := take_snoc (fun x => t - clampS t x) (show i < l.length by omega)
    rw [show (othersS t l).take i ++ [t - clampS t (rd l i)] = (othersS t l).take (i + 1) from this]
    exact ih k (i + 1) (by omega) (by omega) (by omega)
theorem or_eq {t : Int} (ht : t < 9223372036854775808) (l : List Int) (hl : l.length < 17592186044416) {k : Nat} (hk : 2 * l.length + 1 < k) : stats_Or.f k t l = some (orS t l) := by
  unfold stats_Or.f orS
  rw [mx_max]
  have := or_l0 (t := max 0 t) (by omega) (by omega) l hl l.length k 0 (by omega) (by omega) (by omega)
  simpa using this
theorem foldS_0 (l : List Int) : foldS 0 l 0 = 0 := by
  induction l with
  | nil => rfl
  | cons a r ih =>
    have e : foldS 0 (a :: r) 0 = foldS 0 r (bothS 0 (clampS 0 a) 0) := rfl
    have e2 : bothS 0 (clampS 0 a) 0 = 0 := by unfold bothS; rw [if_pos rfl]
    rw [e, e2, ih]
theorem rand_l0 {t : Int} (ht : 0 < t) (ht' : t < 9223372036854775808) (l : List Int) (hl : l.length ≤ 17592186044416) (d : Nat) : ∀ (k i : Nat) (n : Int), i ≤ l.length → l.length - i = d → 2 * d + 4 < k → 0 ≤ n → n ≤ t → lodestarref15_And.l0 k t l n (i : Int) = some (foldS t (l.drop i) n) := by
  induction d with
  | zero =>
    intro k i n hi hd hk h0 h1
    obtain ⟨k, rfl⟩ : ∃ m, k = m + 2 := ⟨k - 2, by omega⟩
    simp only [lodestarref15_And.l0]
    rw [if_neg (by omega), List.drop_eq_nil_of_le (by omega)]
    simp only [lodestarref15_And.j1]
    rw [if_neg (by simp)]
    rfl
  | succ d ih =>
    intro k i n hi hd hk h0 h1
    obtain ⟨k, rfl⟩ : ∃ m, k = m + 2 := ⟨k - 2, by omega⟩
    have hw : wrap64 ((i : Int) + 1) = ((i + 1 : Nat) : Int) := by unfold wrap64; omega
    obtain ⟨c0, c1⟩ := clamp_b (Int.le_of_lt ht) (rd l i)
    obtain ⟨b0, b1, b2⟩ := both_b h0 h1 c0 c1
    have ec : mx 0 (mn (rd l i) t) = clampS t (rd l i) := by rw [mx_max, mn_min]; rfl
    have hd2 := drop_at (show i < l.length by omega)
    simp only [lodestarref15_And.l0]
    rw [if_pos (by omega)]
    simp only [lodestarref15_And.j1]
    rw [if_pos (by simpa using ht), if_pos (by omega), if_pos (by omega), ec, rmul_eq h0 (by omega) c0 (by omega) (by omega)]
    simp only [Option.bind_some]
    have eb : bothS n (clampS t (rd l i)) t = if n * clampS t (rd l i) < 9223372036854775808 then n * clampS t (rd l i) / t else n / t * clampS t (rd l i) := by
      unfold bothS; rw [if_neg (by omega)]
    by_cases h : n * clampS t (rd l i) < 9223372036854775808
    · rw [mulS_1 h, if_pos rfl, if_neg (by omega), over_t h0 h1 c0 c1 h ht, hw]
      rw [if_pos h] at eb
      rw [← eb, ih k (i + 1) _ (by omega) (by omega) (by omega) b0 (by omega), hd2]
      rfl
    · rw [mulS_2 h, if_neg (by decide), if_neg (by omega), over_t2 h0 h1 c0 c1 ht ht', hw]
      rw [if_neg h] at eb
      rw [← eb, ih k (i + 1) _ (by omega) (by omega) (by omega) b0 (by omega), hd2]
      rfl
theorem rand_z (l : List Int) (k i : Nat) (hk : 2 ≤ k) : lodestarref15_And.l0 k 0 l 0 (i : Int) = some 0 := by
  obtain ⟨k, rfl⟩ : ∃ m, k = m + 2 := ⟨k - 2, by omega⟩
  simp only [lodestarref15_And.l0]
  split <;> (simp only [lodestarref15_And.j1]; rw [if_neg (by simp)])
theorem rand_eq {t : Int} (ht : t < 9223372036854775808) (l : List Int) (hl : l.length ≤ 17592186044416) {k : Nat} (hk : 2 * l.length + 4 < k) : lodestarref15_And.f k t l = some (andS t l) := by
  unfold lodestarref15_And.f andS
  have e : mx t 0 = max 0 t := by rw [mx_max, Int.max_comm]
  rw [e]
  by_cases h0 : 0 < t
  · exact rand_l0 (by omega) (by omega) l hl l.length k 0 _ (by omega) (by omega) hk (by omega) (Int.le_refl _)
  · rw [show max 0 t = 0 by omega, foldS_0]
    exact rand_z l k 0 (by omega)
theorem ror_l0 {t : Int} (ht : 0 ≤ t) (ht' : t < 9223372036854775808) (l : List Int) (hl : l.length < 17592186044416) (d : Nat) : ∀ (k i : Nat), i ≤ l.length → l.length - i = d → d + 2 * l.length + 5 < k →
    lodestarref15_Or.l0 k t l ((othersS t l).take i) (i : Int) = some (t - andS t (othersS t l)) := by
  induction d with
  | zero =>
    intro k i hi hd hk
    obtain ⟨k, rfl⟩ : ∃ m, k = m + 1 := ⟨k - 1, by omega⟩
    have hol : (othersS t l).length = l.length := by simp [othersS]
    simp only [lodestarref15_Or.l0]
    rw [if_neg (by omega), List.take_of_length_le (by omega), rand_eq ht' _ (by omega) (by omega)]
    simp only [Option.bind_some]
    have := and_b (t := t) (othersS t l)
    rw [w64 (by omega) (by omega)]
  | succ d ih =>
    intro k i hi hd hk
    obtain ⟨k, rfl⟩ : ∃ m, k = m + 1 := ⟨k - 1, by omega⟩
    have hw : wrap64 ((i : Int) + 1) = ((i + 1 : Nat) : Int) := by unfold wrap64; omega
    have ec : mx 0 (mn (rd l i) t) = clampS t (rd l i) := by rw [mx_max, mn_min]; rfl
    have hc := clamp_b ht (rd l i)
    have hol : ((othersS t l).take i).length = i := by simp [othersS]; omega
    simp only [lodestarref15_Or.l0]
    rw [if_pos (by omega), if_pos (by omega), if_pos (by omega), ec, w64 (x := t - _) (by omega) (by omega), hw]
    have := take_snoc (fun x => t - clampS t x) (show i < l.length by omega)
    rw [show (othersS t l).take i ++ [t - clampS t (rd l i)] = (othersS t l).take (i + 1) from this]
    exact ih k (i + 1) (by omega) (by omega) (by omega)
theorem ror_eq {t : Int} (ht : t < 9223372036854775808) (l : List Int) (hl : l.length < 17592186044416) {k : Nat} (hk : 3 * l.length + 5 < k) : lodestarref15_Or.f k t l = some (orS t l) := by
  unfold lodestarref15_Or.f orS
  have e : mx t 0 = max 0 t := by rw [mx_max, Int.max_comm]
  rw [e]
  have := ror_l0 (t := max 0 t) (by omega) (by omega) l hl l.length k 0 (by omega) (by omega) (by omega)
  simpa using this
theorem or_b {t : Int} (l : List Int) : 0 ≤ orS t l ∧ orS t l ≤ max 0 t ∧ ∀ x ∈ l, clampS (max 0 t) x ≤ orS t l := by
  unfold orS
  obtain ⟨h1, h2, h3⟩ := and_b (t := max 0 t) (othersS (max 0 t) l)
  have e : max 0 (max 0 t) = max 0 t := by omega
  rw [e] at h2 h3
  refine ⟨by omega, by omega, fun x hx => ?_⟩
  have h4 := h3 (max 0 t - clampS (max 0 t) x) (List.mem_map.2 ⟨x, hx, rfl⟩)
  have hc := clamp_b (t := max 0 t) (by omega) x
  rw [clamp_id (by omega) (by omega)] at h4
  omega

theorem build_ex : stats_Build.f [1, 2, 3, 4, 5, 6, 7, 8, 9, 10] [] 2 = some (10, [⟨1, 5, 5, 5⟩, ⟨6, 10, 5, 5⟩], []) := by
  have hs : ([1, 2, 3, 4, 5, 6, 7, 8, 9, 10] : List Int).mergeSort (fun x y => decide (x ≤ y)) = [1, 2, 3, 4, 5, 6, 7, 8, 9, 10] :=
    List.mergeSort_of_pairwise (by decide)
  have hb : H.bks [1, 2, 3, 4, 5, 6, 7, 8, 9, 10] 2 = [⟨1, 5, 5, 5⟩, ⟨6, 10, 5, 5⟩] := by
    unfold H.bks
    rw [hs]
    rfl
  unfold stats_Build.f
  rw [if_pos (by decide), hb]
  rfl
theorem awake_60 : lodestarlaw15_awake.f 60 = some true := by
  unfold lodestarlaw15_awake.f
  rw [build_ex]
  decide +kernel
theorem awake_eq {k : Nat} (hk : 60 ≤ k) : lodestarlaw15_awake.f k = some true := at_rounds lodestarlaw15_awake.mono hk awake_60
end Go.Proofs.Ytihanpdfnpgnfaa.Pure
