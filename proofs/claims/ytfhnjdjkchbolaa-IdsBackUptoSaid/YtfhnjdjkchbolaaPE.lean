/- What the printed functions that read ids back come to: no memory and no Go here. -/
import Derived.Test.YtfhnjdjkchbolaaPD
namespace Go.Proofs.Ytfhnjdjkchbolaa.PAll
open Go.RowKit Go.Proofs.YtfhnjdjkchbolaaW.PrintWords Go.Proofs.YtfhnjdjkchbolaaW.PrintLast Go.Proofs.YtfhnjdjkchbolaaW.PrintMore
set_option linter.unusedSimpArgs false
set_option linter.unusedVariables false

theorem drop_at (a : ByteArray) {p : Nat} (h : p < a.size) : (H.nums8 a).drop p = bt a (p : Int) :: (H.nums8 a).drop (p + 1) := by
  have hl : p < (H.nums8 a).length := by rw [H.nums8_len]; exact h
  rw [List.drop_eq_getElem_cons hl, bt_nums, List.getElem?_eq_getElem hl]
  rfl
theorem drop_end (a : ByteArray) {p : Nat} (h : a.size ≤ p) : (H.nums8 a).drop p = [] := List.drop_eq_nil_of_le (by rw [H.nums8_len]; exact h)

theorem pow7 {j : Nat} (h : j ≤ 7) : (1 : Int) ≤ 2 ^ (7 * j) ∧ (2 : Int) ^ (7 * j) ≤ 562949953421312 ∧ (2 : Int) ^ (7 * (j + 1)) = 2 ^ (7 * j) * 128 := by
  obtain rfl | rfl | rfl | rfl | rfl | rfl | rfl | rfl : j = 0 ∨ j = 1 ∨ j = 2 ∨ j = 3 ∨ j = 4 ∨ j = 5 ∨ j = 6 ∨ j = 7 := by omega
  all_goals decide
theorem shl_in {y : Int} {j : Nat} (h0 : 0 ≤ y) (h1 : y ≤ 127) (h : j ≤ 7) : shl .i64 y ((7 * j : Nat) : Int) = y * 2 ^ (7 * j) := by
  have hp := pow7 h
  unfold shl
  rw [Int.toNat_natCast, Nat.min_eq_left (by show 7 * j ≤ 64; omega)]
  obtain ⟨P, hP⟩ : ∃ P : Int, P = 2 ^ (7 * j) := ⟨_, rfl⟩
  rw [← hP] at hp ⊢
  have a1 : 0 ≤ y * P := Int.mul_nonneg h0 (by omega)
  have a2 : y * P ≤ 127 * P := Int.mul_le_mul_of_nonneg_right h1 (by omega)
  exact wrapi_in (by omega) (by omega)

/-- What reading one small number comes to, and what follows. -/
def After (k0 : List Int × Int → Prop) (go : Int → Nat → (List Int × Int) → Prop) (prior : Int) (q : Option (Int × List Int)) (res : List Int × Int) (acc P : Int) (size : Nat) : Prop :=
  match q with
  | none => k0 res
  | some (v, r) => if prior + (acc + v * P) > H.top then k0 res else go (prior + (acc + v * P)) (size - r.length) res

set_option maxHeartbeats 1000000 in
theorem dec_l1 (a : ByteArray) (hs : a.size ≤ 281474976710656) (n : Int) (l : List Int) (hl : l.length < 17592186044416) (prior : Int) (hp0 : 0 ≤ prior) (hp1 : prior ≤ H.top) (res : List Int × Int) : ∀ (f j p : Nat) (acc : Int), f + j = 8 → p ≤ a.size → 0 ≤ acc → acc < 2 ^ (7 * j) →
    After (fun res => res = ([], 80)) (fun id p' res => Ev (fun k => ids_Decode.l0 k a n (l ++ [id]) (p' : Int) id) res) prior (H.sm f ((H.nums8 a).drop p)) res acc (2 ^ (7 * j)) a.size →
    Ev (fun k => ids_Decode.l1 k a n l (p : Int) prior acc ((7 * j : Nat) : Int)) res := by
  intro f
  induction f with
  | zero =>
    intro j p acc hj hp ha0 ha1 h
    simp only [H.sm, After] at h
    subst h
    refine Ev.step (f := ?f1) ?h1 ?g1; case h1 => intro k; simp only [ids_Decode.l1]; rfl
    have e : decide (((7 * j : Nat) : Int) > 49) = true := decide_eq_true (by omega)
    simp only [e, ite_self]
    refine Ev.step (f := ?f2) ?h2 ?g2; case h2 => intro k; simp only [ids_Decode.j2, if_true]; rfl
    exact Ev.now _
  | succ f ih =>
    intro j p acc hj hp ha0 ha1 h
    obtain ⟨q1, q2, q3⟩ := pow7 (j := j) (by omega)
    refine Ev.step (f := ?f3) ?h3 ?g3; case h3 => intro k; simp only [ids_Decode.l1]; rfl
    by_cases hpe : p = a.size
    · rw [drop_end a (by omega)] at h
      simp only [H.sm, After] at h
      subst h
      simp only [if_pos (show ((p : Nat) : Int) = (a.size : Int) by omega)]
      refine Ev.step (f := ?f4) ?h4 ?g4; case h4 => intro k; simp only [ids_Decode.j2, if_true]; rfl
      exact Ev.now _
    · have hpl : p < a.size := by omega
      simp only [if_neg (show ¬ ((p : Nat) : Int) = (a.size : Int) by omega)]
      have e : decide (((7 * j : Nat) : Int) > 49) = false := decide_eq_false (by omega)
      rw [e]
      rw [drop_at a hpl] at h
      have hb := bt_range a (p : Int)
      obtain ⟨b, hbe⟩ : ∃ b, b = bt a (p : Int) := ⟨_, rfl⟩
      rw [← hbe] at h hb
      obtain ⟨P, hP⟩ : ∃ P : Int, P = 2 ^ (7 * j) := ⟨_, rfl⟩
      have em : Int.tmod b 128 = b % 128 := Int.tmod_eq_emod_of_nonneg hb.1
      have es : shl .i64 (b % 128) ((7 * j : Nat) : Int) = (b % 128) * P := by rw [hP]; exact shl_in (by omega) (by omega) (by omega)
      have x1 : 0 ≤ (b % 128) * P := Int.mul_nonneg (by omega) (by omega)
      have x2 : (b % 128) * P ≤ 127 * P := Int.mul_le_mul_of_nonneg_right (by omega) (by omega)
      unfold H.top at hp1
      have w5 : wrap64 (prior + (acc + (b % 128) * P)) = prior + (acc + (b % 128) * P) := wrap_in (by omega) (by omega)
      have w1 : wrap64 b = b := wrap_in (by omega) (by omega)
      have w2 : wrap64 (acc + (b % 128) * P) = acc + (b % 128) * P := wrap_in (by omega) (by omega)
      have w3 : wrap64 ((p : Int) + 1) = ((p + 1 : Nat) : Int) := by rw [wrap_in (by omega) (by omega)]; omega
      have w4 : wrap64 (((7 * j : Nat) : Int) + 7) = ((7 * (j + 1) : Nat) : Int) := by rw [wrap_in (by omega) (by omega)]; omega
      have t1 : 0 ≤ ((p : Nat) : Int) := Int.natCast_nonneg _
      have t2 : ((p : Nat) : Int) < (a.size : Int) := Int.ofNat_lt.2 hpl
      have t3 : 0 ≤ ((7 * j : Nat) : Int) := Int.natCast_nonneg _
      refine Ev.step (f := ?f5) ?h5 ?g5
      case h5 => intro k; simp only [ids_Decode.j2, ← hbe, w1, em, es, w2, w3, w4, w5, if_neg Bool.false_ne_true]; rw [if_pos t1, if_pos t2, if_pos t3]
      clear w1 w2 w3 w4 w5 es em
      rw [H.sm] at h
      by_cases c128 : b < 128
      · rw [if_pos c128] at h
        simp only [if_neg (show ¬ b ≥ 128 by omega)]
        have eb : b % 128 = b := by omega
        rw [eb] at x1 x2 ⊢
        by_cases c0 : b = 0
        · rw [if_pos c0] at h
          simp only [After] at h
          subst h
          simp only [if_pos c0]
          by_cases cj : ((7 * (j + 1) : Nat) : Int) > 7
          · simp only [if_pos cj]; exact Ev.now _
          · simp only [if_neg cj, if_pos hl]
            have hj0 : j = 0 := by omega
            subst hj0
            simp only [Nat.mul_zero, Int.pow_zero] at ha1 hP
            subst hP c0
            simp only [if_neg (show ¬ prior + (acc + 0 * 1) > 4503599627370496 by omega), if_pos (show acc + 0 * 1 < 1 by omega)]
            exact Ev.now _
        · rw [if_neg c0] at h
          simp only [if_neg c0, if_pos hl]
          simp only [After, ← hP] at h
          have hbp : P ≤ b * P := by
            have := Int.mul_le_mul_of_nonneg_right (show 1 ≤ b by omega) (show 0 ≤ P by omega)
            omega
          by_cases ct : prior + (acc + b * P) > 4503599627370496
          · unfold H.top at h
            rw [if_pos ct] at h
            subst h
            simp only [if_pos ct]
            exact Ev.now _
          · unfold H.top at h
            rw [if_neg ct] at h
            simp only [if_neg ct, if_neg (show ¬ acc + b * P < 1 by omega)]
            have hr : a.size - ((H.nums8 a).drop (p + 1)).length = p + 1 := by rw [List.length_drop, H.nums8_len]; omega
            rw [hr] at h
            exact h
      · rw [if_neg c128] at h
        simp only [if_pos (show b ≥ 128 by omega)]
        have eb : b % 128 = b - 128 := by omega
        rw [eb] at x1 x2 ⊢
        refine ih (j + 1) (p + 1) (acc + (b - 128) * P) (by omega) (by omega) (by omega) (by rw [q3, ← hP]; omega) ?_
        rw [q3, ← hP]
        cases hsm : H.sm f ((H.nums8 a).drop (p + 1)) with
        | none => rw [hsm] at h; exact h
        | some q =>
          obtain ⟨v, r⟩ := q
          rw [hsm] at h
          simp only [Option.map_some, After, ← hP] at h ⊢
          have e1 : acc + (b - 128) * P + v * (P * 128) = acc + (b - 128 + 128 * v) * P := by
            rw [Int.add_mul, Int.mul_comm P 128, ← Int.mul_assoc, Int.mul_comm v 128]
            omega
          rw [e1]
          exact h
theorem dec_l0 (a : ByteArray) (hs : a.size ≤ 281474976710656) (n : Nat) (hn : n < 4294967296) : ∀ (c : Nat) (l : List Int) (p : Nat) (prior : Int), l.length + c = n → p ≤ a.size → 0 ≤ prior → prior ≤ H.top →
    Ev (fun k => ids_Decode.l0 k a (n : Int) l (p : Int) prior) (match H.decL c prior ((H.nums8 a).drop p) with | none => ([], 80) | some t => (l ++ t, 0)) := by
  intro c
  induction c with
  | zero =>
    intro l p prior hl hp h0 h1
    refine Ev.step (f := ?f6) ?h6 ?g6; case h6 => intro k; simp only [ids_Decode.l0]; rfl
    have w : IntKind.u64.wrap (l.length : Int) = (l.length : Int) := wrapu_in (by omega) (by omega)
    rw [w]
    simp only [if_neg (show ¬ (l.length : Int) < (n : Int) by omega)]
    rw [H.decL]
    by_cases hpe : p = a.size
    · rw [drop_end a (by omega), if_pos rfl]
      simp only [if_pos (show (p : Int) = (a.size : Int) by omega), List.append_nil]
      exact Ev.now _
    · rw [drop_at a (by omega), if_neg (List.cons_ne_nil (bt a (p : Int)) _)]
      simp only [if_neg (show ¬ (p : Int) = (a.size : Int) by omega)]
      exact Ev.now _
  | succ c ih =>
    intro l p prior hl hp h0 h1
    refine Ev.step (f := ?f7) ?h7 ?g7; case h7 => intro k; simp only [ids_Decode.l0]; rfl
    have w : IntKind.u64.wrap (l.length : Int) = (l.length : Int) := wrapu_in (by omega) (by omega)
    rw [w]
    simp only [if_pos (show (l.length : Int) < (n : Int) by omega)]
    refine dec_l1 a hs n l (by omega) prior h0 h1 _ 8 0 p 0 rfl hp (Int.le_refl 0) (by decide) ?_
    rw [H.decL]
    cases hsm : H.sm 8 ((H.nums8 a).drop p) with
    | none => simp only [After, Option.bind_none]
    | some q =>
      obtain ⟨v, r⟩ := q
      obtain ⟨v1, v2, v3⟩ := H.sm_back 8 _ v r (fun x hx => H.nums8_small a x (List.mem_of_mem_drop hx)) hsm
      simp only [After, Option.bind_some, Nat.mul_zero, Int.pow_zero, Int.mul_one, Int.zero_add]
      by_cases ct : prior + v > H.top
      · rw [if_pos ct, if_pos ct]
      · rw [if_neg ct, if_neg ct]
        have hd : (H.nums8 a).drop (a.size - r.length) = r := by
          have e : (H.nums8 a).drop p = H.enc7 v.toNat ++ r := v2
          have el : a.size - r.length = p + (H.enc7 v.toNat).length := by
            have := congrArg List.length e
            rw [List.length_drop, H.nums8_len, List.length_append] at this
            have h3 : r.length < ((H.nums8 a).drop p).length := v3
            rw [List.length_drop, H.nums8_len] at h3
            omega
          rw [el, ← List.drop_drop, e, List.drop_left]
        have := ih (l ++ [prior + v]) (a.size - r.length) (prior + v) (by simp; omega) (by omega) (by omega) (by omega)
        rw [hd] at this
        cases ht : H.decL c (prior + v) r with
        | none => rw [ht] at this; exact this
        | some t => rw [ht] at this; simpa using this
theorem dec_ev (a : ByteArray) (hs : a.size ≤ 281474976710656) : Ev (fun k => ids_Decode.f k a) (H.decB (H.nums8 a)) := by
  unfold H.decB ids_Decode.f
  rw [H.nums8_len]
  by_cases c : a.size < 4
  · rw [if_pos c]
    simp only [if_pos (show (a.size : Int) < 4 by omega)]
    exact Ev.now _
  · rw [if_neg c]
    simp only [if_neg (show ¬ (a.size : Int) < 4 by omega), if_pos (show (0 : Int) ≤ 4 by omega), if_pos (show 4 ≤ (a.size : Int) by omega)]
    have h4 : (a.extract 0 4).size = 4 := by rw [ByteArray.size_extract]; omega
    have e4 : H.nums8 (a.extract 0 4) = (H.nums8 a).take 4 := by rw [H.nums8_extract]; rfl
    refine Ev.bind (f := fun k r => ids_Decode.l0 k a r.1 [] 4 0) (unfix_ev _ h4) ?_
    rw [e4]
    obtain ⟨_, l1, l2⟩ := H.le4_ofle (bs := (H.nums8 a).take 4) (fun x hx => H.nums8_small a x (List.mem_of_mem_take hx)) (by rw [List.length_take, H.nums8_len]; omega)
    obtain ⟨n, hn⟩ : ∃ n : Nat, H.ofle ((H.nums8 a).take 4) = (n : Int) := ⟨_, (Int.toNat_of_nonneg l1).symm⟩
    rw [hn] at l2 ⊢
    rw [Int.toNat_natCast]
    have := dec_l0 a hs n (by omega) n [] 4 0 (by simp) (by omega) (Int.le_refl 0) (by decide)
    cases hd : H.decL n 0 ((H.nums8 a).drop 4) with
    | none => rw [hd] at this; exact this
    | some t => rw [hd] at this; exact this

set_option maxHeartbeats 1000000 in
theorem small_l0 (a : ByteArray) (hs : a.size ≤ 281474976710656) : ∀ (f j : Nat) (acc : Int), f + j = 8 → j ≤ a.size → 0 ≤ acc → acc < 2 ^ (7 * j) →
    Ev (fun k => lodestarref08_small.l0 k a acc (2 ^ (7 * j)) (j : Int)) (match H.sm f ((H.nums8 a).drop j) with | none => (0, 0) | some (v, r) => (acc + v * 2 ^ (7 * j), ((a.size - r.length : Nat) : Int))) := by
  intro f
  induction f with
  | zero =>
    intro j acc hj hp ha0 ha1
    simp only [H.sm]
    refine Ev.step (f := ?f8) ?h8 ?g8; case h8 => intro k; simp only [lodestarref08_small.l0]; rfl
    have e : decide ((j : Int) < 8) = false := decide_eq_false (by omega)
    simp only [e, ite_self]
    refine Ev.step (f := ?f9) ?h9 ?g9; case h9 => intro k; simp only [lodestarref08_small.j1, if_neg Bool.false_ne_true]; rfl
    exact Ev.now _
  | succ f ih =>
    intro j acc hj hp ha0 ha1
    obtain ⟨q1, q2, q3⟩ := pow7 (j := j) (by omega)
    refine Ev.step (f := ?f10) ?h10 ?g10; case h10 => intro k; simp only [lodestarref08_small.l0]; rfl
    by_cases hpe : j = a.size
    · rw [drop_end a (by omega)]
      simp only [H.sm]
      simp only [if_neg (show ¬ (j : Int) < (a.size : Int) by omega)]
      refine Ev.step (f := ?f11) ?h11 ?g11; case h11 => intro k; simp only [lodestarref08_small.j1, if_neg Bool.false_ne_true]; rfl
      exact Ev.now _
    · have hpl : j < a.size := by omega
      simp only [if_pos (show (j : Int) < (a.size : Int) by omega)]
      have e : decide ((j : Int) < 8) = true := decide_eq_true (by omega)
      rw [e, drop_at a hpl]
      have hb := bt_range a (j : Int)
      obtain ⟨b, hbe⟩ : ∃ b, b = bt a (j : Int) := ⟨_, rfl⟩
      rw [← hbe]
      rw [← hbe] at hb
      obtain ⟨P, hP⟩ : ∃ P : Int, P = 2 ^ (7 * j) := ⟨_, rfl⟩
      have em : Int.tmod b 128 = b % 128 := Int.tmod_eq_emod_of_nonneg hb.1
      rw [← hP] at q1 q2 q3 ha1 ⊢
      have x1 : 0 ≤ (b % 128) * P := Int.mul_nonneg (by omega) (by omega)
      have x2 : (b % 128) * P ≤ 127 * P := Int.mul_le_mul_of_nonneg_right (by omega) (by omega)
      have w0 : wrap64 (b % 128) = b % 128 := wrap_in (by omega) (by omega)
      have w1 : wrap64 ((b % 128) * P) = (b % 128) * P := wrap_in (by omega) (by omega)
      have w2 : wrap64 (acc + (b % 128) * P) = acc + (b % 128) * P := wrap_in (by omega) (by omega)
      have w3 : wrap64 ((j : Int) + 1) = ((j + 1 : Nat) : Int) := by rw [wrap_in (by omega) (by omega)]; omega
      have w4 : wrap64 (P * 128) = P * 128 := wrap_in (by omega) (by omega)
      have t1 : 0 ≤ (j : Int) := Int.natCast_nonneg _
      have t2 : (j : Int) < (a.size : Int) := Int.ofNat_lt.2 hpl
      refine Ev.step (f := ?f12) ?h12 ?g12
      case h12 => intro k; simp only [lodestarref08_small.j1, ← hbe, em, w0, w1, w2, w3, w4, if_true]; rw [if_pos t1, if_pos t2]
      clear w0 w1 w2 w3 w4 em
      rw [H.sm]
      by_cases c128 : b < 128
      · rw [if_pos c128]
        simp only [if_pos c128]
        by_cases c0 : b = 0
        · rw [if_pos c0]
          simp only [if_pos c0]
          exact Ev.now _
        · rw [if_neg c0]
          simp only [if_neg c0]
          have eb : b % 128 = b := by omega
          rw [eb]
          have hr : a.size - ((H.nums8 a).drop (j + 1)).length = j + 1 := by rw [List.length_drop, H.nums8_len]; omega
          rw [hr]
          exact Ev.now _
      · rw [if_neg c128]
        simp only [if_neg c128]
        have eb : b % 128 = b - 128 := by omega
        rw [eb] at x1 x2 ⊢
        have h := ih (j + 1) (acc + (b - 128) * P) (by omega) (by omega) (by omega) (by rw [q3]; omega)
        rw [q3] at h
        cases hsm : H.sm f ((H.nums8 a).drop (j + 1)) with
        | none => rw [hsm] at h; exact h
        | some q =>
          obtain ⟨v, r⟩ := q
          rw [hsm] at h
          simp only [Option.map_some] at h ⊢
          have e1 : acc + (b - 128) * P + v * (P * 128) = acc + (b - 128 + 128 * v) * P := by
            rw [Int.add_mul, Int.mul_comm P 128, ← Int.mul_assoc, Int.mul_comm v 128]
            omega
          rw [e1] at h
          exact h
theorem small_ev (a : ByteArray) (hs : a.size ≤ 281474976710656) : Ev (fun k => lodestarref08_small.f k a) (match H.sm 8 (H.nums8 a) with | none => (0, 0) | some (v, r) => (v, ((a.size - r.length : Nat) : Int))) := by
  have := small_l0 a hs 8 0 0 rfl (by omega) (Int.le_refl 0) (by decide)
  simp only [Nat.mul_zero, Int.pow_zero, Int.mul_one, Int.zero_add, List.drop_zero] at this
  exact this
theorem rdec_l0 (n : Nat) (hn : n < 4294967296) : ∀ (c : Nat) (a : ByteArray) (l : List Int) (prior : Int), a.size ≤ 281474976710656 → l.length + c = n → 0 ≤ prior → prior ≤ H.top →
    Ev (fun k => lodestarref08_Decode.l0 k a (n : Int) l prior) (match H.decL c prior (H.nums8 a) with | none => ([], 80) | some t => (l ++ t, 0)) := by
  intro c
  induction c with
  | zero =>
    intro a l prior hs hl h0 h1
    refine Ev.step (f := ?f13) ?h13 ?g13; case h13 => intro k; simp only [lodestarref08_Decode.l0]; rfl
    have w : IntKind.u64.wrap (l.length : Int) = (l.length : Int) := wrapu_in (by omega) (by omega)
    rw [w]
    simp only [if_neg (show ¬ (l.length : Int) < (n : Int) by omega)]
    rw [H.decL]
    by_cases hpe : a.toList = ([] : List UInt8)
    · have : H.nums8 a = [] := by unfold H.nums8; rw [← Lib.toList_data, hpe]; rfl
      rw [this, if_pos rfl]
      simp only [if_pos hpe, List.append_nil]
      exact Ev.now _
    · have : ¬ H.nums8 a = [] := fun h => hpe (by rw [Lib.toList_data]; unfold H.nums8 at h; simpa using h)
      rw [if_neg this]
      simp only [if_neg hpe]
      exact Ev.now _
  | succ c ih =>
    intro a l prior hs hl h0 h1
    refine Ev.step (f := ?f14) ?h14 ?g14; case h14 => intro k; simp only [lodestarref08_Decode.l0]; rfl
    have w : IntKind.u64.wrap (l.length : Int) = (l.length : Int) := wrapu_in (by omega) (by omega)
    rw [w]
    simp only [if_pos (show (l.length : Int) < (n : Int) by omega)]
    refine Ev.bind (small_ev a hs) ?_
    unfold H.top at h1
    have w2 : wrap64 (4503599627370496 - prior) = 4503599627370496 - prior := wrap_in (by omega) (by omega)
    rw [H.decL, w2]
    cases hsm : H.sm 8 (H.nums8 a) with
    | none =>
      simp only [Option.bind_none, if_true]
      exact Ev.now _
    | some q =>
      obtain ⟨v, r⟩ := q
      obtain ⟨v1, v2, v3⟩ := H.sm_back 8 _ v r (H.nums8_small a) hsm
      rw [H.nums8_len] at v3
      simp only [Option.bind_some]
      simp only [if_neg (show ¬ ((a.size - r.length : Nat) : Int) = 0 by omega)]
      by_cases ct : prior + v > H.top
      · rw [if_pos ct]
        unfold H.top at ct
        simp only [if_pos (show v > 4503599627370496 - prior by omega)]
        exact Ev.now _
      · rw [if_neg ct]
        unfold H.top at ct
        have w3 : wrap64 (prior + v) = prior + v := wrap_in (by omega) (by omega)
        simp only [if_neg (show ¬ v > 4503599627370496 - prior by omega), if_pos (show l.length < 17592186044416 by omega), if_pos (show 0 ≤ ((a.size - r.length : Nat) : Int) by omega), if_pos (show ((a.size - r.length : Nat) : Int) ≤ (a.size : Int) by omega), w3, Int.toNat_natCast]
        have hd : H.nums8 (a.extract (a.size - r.length) a.size) = r := by
          rw [H.nums8_extract]
          have el : a.size - r.length = (H.enc7 v.toNat).length := by
            have := congrArg List.length v2
            rw [H.nums8_len, List.length_append] at this
            omega
          rw [show a.size - (a.size - r.length) = r.length from by omega, el]
          conv => lhs; rw [v2]
          rw [List.drop_left, List.take_length]
        have := ih (a.extract (a.size - r.length) a.size) (l ++ [prior + v]) (prior + v) (by rw [ByteArray.size_extract]; omega) (by simp; omega) (by omega) (by unfold H.top; omega)
        rw [hd] at this
        cases ht : H.decL c (prior + v) r with
        | none => rw [ht] at this; exact this
        | some t => rw [ht] at this; simpa using this
theorem rdec_ev (a : ByteArray) (hs : a.size ≤ 281474976710656) : Ev (fun k => lodestarref08_Decode.f k a) (H.decB (H.nums8 a)) := by
  unfold H.decB lodestarref08_Decode.f
  rw [H.nums8_len]
  by_cases c : a.size < 4
  · rw [if_pos c]
    simp only [if_pos (show (a.size : Int) < 4 by omega)]
    exact Ev.now _
  · rw [if_neg c]
    simp only [if_neg (show ¬ (a.size : Int) < 4 by omega), if_pos (show (0 : Int) ≤ 4 by omega), if_pos (show 4 ≤ (a.size : Int) by omega)]
    have h4 : (a.extract 0 4).size = 4 := by rw [ByteArray.size_extract]; omega
    have e4 : H.nums8 (a.extract 0 4) = (H.nums8 a).take 4 := by rw [H.nums8_extract]; rfl
    have e5 : H.nums8 (a.extract 4 a.size) = (H.nums8 a).drop 4 := by rw [H.nums8_extract]; exact List.take_of_length_le (by rw [List.length_drop, H.nums8_len]; omega)
    refine Ev.bind (f := fun k r => lodestarref08_Decode.l0 k (a.extract 4 a.size) r.1 [] 0) (runfix_ev _ h4) ?_
    rw [e4]
    obtain ⟨_, l1, l2⟩ := H.le4_ofle (bs := (H.nums8 a).take 4) (fun x hx => H.nums8_small a x (List.mem_of_mem_take hx)) (by rw [List.length_take, H.nums8_len]; omega)
    obtain ⟨n, hn⟩ : ∃ n : Nat, H.ofle ((H.nums8 a).take 4) = (n : Int) := ⟨_, (Int.toNat_of_nonneg l1).symm⟩
    rw [hn] at l2 ⊢
    rw [Int.toNat_natCast]
    have := rdec_l0 n (by omega) n (a.extract 4 a.size) [] 0 (by rw [ByteArray.size_extract]; omega) (by simp) (Int.le_refl 0) (by decide)
    rw [e5] at this
    cases hd : H.decL n 0 ((H.nums8 a).drop 4) with
    | none => rw [hd] at this; exact this
    | some t => rw [hd] at this; exact this
end Go.Proofs.Ytfhnjdjkchbolaa.PAll
