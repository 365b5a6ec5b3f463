/- Plain laws of the reference's counts: its sort by insertion is the sort, its hash the hash, and the entries of sorted hashes come one behind the other. No program and no memory. -/
import Derived.Lib.Hide
import Derived.Test.YtihanpdfnpgnfaaSMid
import Derived.Test.YtihanpdfnpgnfaaSHash
import Derived.Test.YtihanpdfnpgnfaaPAllx6
namespace Go.Proofs.Ytihanpdfnpgnfaa.H
open Go.RowKit Go.Lib Go.Proofs.YtihanpdfnpgnfaaW.PrintWords Go.Proofs.Ytihanpdfnpgnfaa.PAll
set_option linter.unusedVariables false

def insA (x : Int) : List Int → List Int
  | [] => [x]
  | y :: r => if x < y then x :: y :: r else y :: insA x r
theorem insA_perm (x : Int) : ∀ l, (insA x l).Perm (x :: l)
  | [] => List.Perm.refl _
  | y :: r => by
    unfold insA
    split
    · exact List.Perm.refl _
    · exact ((insA_perm x r).cons y).trans (List.Perm.swap x y r)
theorem insA_sorted (x : Int) : ∀ l : List Int, l.Pairwise (· ≤ ·) → (insA x l).Pairwise (· ≤ ·)
  | [], _ => by simp [insA]
  | y :: r, h => by
    rw [List.pairwise_cons] at h
    unfold insA
    split
    · next hx =>
      rw [List.pairwise_cons, List.pairwise_cons]
      exact ⟨fun z hz => by
        rcases List.mem_cons.1 hz with e | e
        · omega
        · have := h.1 z e; omega, h⟩
    · next hx =>
      rw [List.pairwise_cons]
      refine ⟨fun z hz => ?_, insA_sorted x r h.2⟩
      rcases List.mem_cons.1 ((insA_perm x r).mem_iff.1 hz) with e | e
      · omega
      · exact h.1 z e
def isort (l : List Int) : List Int := l.foldl (fun o x => insA x o) []
theorem isort_snoc (l : List Int) (x : Int) : isort (l ++ [x]) = insA x (isort l) := by unfold isort; simp
theorem sorted_eq {a b : List Int} (hp : a.Perm b) (ha : a.Pairwise (· ≤ ·)) (hb : b.Pairwise (· ≤ ·)) : a = b :=
  hp.eq_of_pairwise (le := (· ≤ ·)) (fun x y _ _ h1 h2 => by omega) ha hb
theorem msort_sorted (l : List Int) : (l.mergeSort fun x y => decide (x ≤ y)).Pairwise (· ≤ ·) := by
  have := List.pairwise_mergeSort (le := fun x y : Int => decide (x ≤ y)) (by intro a b c; simp; omega) (by intro a b; simp; omega) l
  exact this.imp (by simp)
theorem isort_eq (l : List Int) : isort l = l.mergeSort fun x y => decide (x ≤ y) := by
  have key : ∀ (l o : List Int), o.Pairwise (· ≤ ·) → (l.foldl (fun o x => insA x o) o).Pairwise (· ≤ ·) ∧ (l.foldl (fun o x => insA x o) o).Perm (o ++ l) := by
    intro l
    induction l with
    | nil => intro o h; exact ⟨h, by simp⟩
    | cons x r ih =>
      intro o h
      obtain ⟨h1, h2⟩ := ih (insA x o) (insA_sorted x o h)
      refine ⟨h1, h2.trans ?_⟩
      have : (insA x o ++ r).Perm ((x :: o) ++ r) := (insA_perm x o).append_right r
      refine this.trans ?_
      exact List.perm_middle.symm
  obtain ⟨h1, h2⟩ := key l [] List.Pairwise.nil
  exact sorted_eq (h2.trans (List.mergeSort_perm l _).symm) h1 (msort_sorted l)
theorem isort_len (l : List Int) : (isort l).length = l.length := by rw [isort_eq]; simp
theorem rd_at {l : List Int} {i : Nat} (h : i < l.length) : rd l (i : Int) = l[i] := by unfold rd; simp [h]
theorem drop_rd {l : List Int} {i : Nat} (h : i < l.length) : l.drop i = rd l (i : Int) :: l.drop (i + 1) := by rw [rd_at h]; exact List.drop_eq_getElem_cons h
theorem w64n {n : Nat} (h : n < 9223372036854775807) : wrap64 ((n : Int) + 1) = ((n + 1 : Nat) : Int) := by unfold wrap64; omega

theorem rs_l1t (l out : List Int) (x4 : Int) (d : Nat) : ∀ (K i : Nat) (next : List Int), out.length - i = d → i ≤ out.length → out.length ≤ 1048577 → next.length + d ≤ 4194304 →
    lodestarref15_sorted.l1 (d + 1 + K) l out x4 next true (i : Int) = lodestarref15_sorted.l0 K l (next ++ out.drop i) (wrap64 (x4 + 1)) := by
  induction d with
  | zero =>
    intro K i next hd hi ho hn
    rw [show 0 + 1 + K = K + 1 by omega]
    simp only [lodestarref15_sorted.l1]
    rw [if_neg (by omega), if_pos trivial, List.drop_of_length_le (by omega), List.append_nil]
  | succ d ih =>
    intro K i next hd hi ho hn
    rw [show d + 1 + 1 + K = (d + 1 + K) + 1 by omega]
    simp only [lodestarref15_sorted.l1]
    rw [if_pos (by omega), if_pos trivial, if_pos (by omega), if_pos (by omega), w64n (by omega), ih K (i + 1) _ (by omega) (by omega) ho (by simp; omega), drop_rd (show i < out.length by omega)]
    simp
theorem rs_l1f (l out : List Int) {x4 : Nat} (h4 : x4 < l.length) (d : Nat) : ∀ (K i : Nat) (next : List Int), out.length - i = d → i ≤ out.length → out.length ≤ 1048577 → next.length + d ≤ 4194303 →
    lodestarref15_sorted.l1 (d + 1 + K) l out (x4 : Int) next false (i : Int) = lodestarref15_sorted.l0 K l (next ++ insA (rd l (x4 : Int)) (out.drop i)) (wrap64 ((x4 : Int) + 1)) := by
  induction d with
  | zero =>
    intro K i next hd hi ho hn
    rw [show 0 + 1 + K = K + 1 by omega]
    simp only [lodestarref15_sorted.l1]
    rw [if_neg (by omega), if_neg (by decide), if_pos (by omega), if_pos (by omega), if_pos (by omega), List.drop_of_length_le (by omega)]
    rfl
  | succ d ih =>
    intro K i next hd hi ho hn
    rw [show d + 1 + 1 + K = (d + 1 + K) + 1 by omega, drop_rd (show i < out.length by omega)]
    simp only [lodestarref15_sorted.l1, insA]
    rw [if_pos (by omega), if_neg (by decide), if_pos (by omega), if_pos (by omega), if_pos (by omega)]
    by_cases hx : rd l (x4 : Int) < rd out (i : Int)
    · rw [if_pos hx, if_pos hx, if_pos (by omega)]
      simp only [Option.bind_some]
      rw [if_pos (by simp; omega), w64n (by omega), rs_l1t l out _ d K (i + 1) _ (by omega) (by omega) ho (by simp; omega)]
      simp
    · rw [if_neg hx, if_neg hx, if_pos (by omega), w64n (by omega), ih K (i + 1) _ (by omega) (by omega) ho (by simp; omega)]
      simp
theorem rs_l0 (l : List Int) (hl : l.length ≤ 1048576) (d : Nat) : ∀ i, i ≤ l.length → l.length - i = d → ∃ k, lodestarref15_sorted.l0 k l (isort (l.take i)) (i : Int) = some (isort l) := by
  induction d with
  | zero =>
    intro i hi hd
    refine ⟨1, ?_⟩
    simp only [lodestarref15_sorted.l0]
    rw [if_neg (by omega), List.take_of_length_le (by omega)]
  | succ d ih =>
    intro i hi hd
    have hil : i < l.length := by omega
    obtain ⟨K, hK⟩ := ih (i + 1) (by omega) (by omega)
    refine ⟨(isort (l.take i)).length + 1 + K + 1, ?_⟩
    have hlen : (isort (l.take i)).length ≤ 1048576 := by rw [isort_len, List.length_take]; omega
    have h1 := rs_l1f l (isort (l.take i)) hil _ K 0 [] rfl (by omega) (by omega) (by simp; omega)
    rw [w64n (by omega), List.drop_zero, List.nil_append, rd_at hil, ← isort_snoc, ← List.take_succ_eq_append_getElem hil, hK] at h1
    simp only [lodestarref15_sorted.l0]
    rw [if_pos (by omega)]
    exact h1
theorem rsorted_ex (l : List Int) (hl : l.length ≤ 1048576) : ∃ k, lodestarref15_sorted.f k l = some (l.mergeSort fun x y => decide (x ≤ y)) := by
  obtain ⟨k, hk⟩ := rs_l0 l hl l.length 0 (by omega) (by omega)
  rw [isort_eq l] at hk
  exact ⟨k, hk⟩

/-! ### the hash -/
theorem hup_b (l : List UInt8) : 0 ≤ hup l ∧ hup l < 18446744073709551616 := by
  have key : ∀ (l : List UInt8) (a : Int), 0 ≤ a ∧ a < 18446744073709551616 → 0 ≤ l.foldl (fun x c => hst x (c.toNat : Int)) a ∧ l.foldl (fun x c => hst x (c.toNat : Int)) a < 18446744073709551616 := by
    intro l
    induction l with
    | nil => intro a h; exact h
    | cons c r ih =>
      intro a h
      refine ih _ ?_
      show 0 ≤ hst a (c.toNat : Int) ∧ hst a (c.toNat : Int) < 18446744073709551616
      unfold hst
      rw [IntKind.wrap_u64]
      omega
  exact key l _ (by omega)
theorem rh_l0 (s : ByteArray) (hs : s.size ≤ 1048576) (d : Nat) : ∀ i, i ≤ s.size → s.size - i = d → lodestarref01_Hash.l0 (d + 1) s (hup (s.data.toList.take i)) (i : Int) = some (hashOf s) := by
  induction d with
  | zero =>
    intro i hi hd
    have : i = s.size := by omega
    subst this
    have hb := hup_b (s.data.toList.take s.size)
    simp only [lodestarref01_Hash.l0]
    rw [if_neg (by omega)]
    unfold hashOf
    rw [List.take_of_length_le (by simp)] at hb ⊢
    rw [Int.tdiv_eq_ediv_of_nonneg hb.1, IntKind.wrap_u64, Int.emod_eq_of_lt (by omega) (by omega)]
  | succ d ih =>
    intro i hi hd
    have hil : i < s.size := by omega
    simp only [lodestarref01_Hash.l0]
    rw [if_pos (by omega), if_pos (by omega), w64n (by omega)]
    have h := ih (i + 1) (by omega) (by omega)
    rw [hup_take hil] at h
    have eb : bt s (i : Int) = ((s.data.toList.getD i 0).toNat : Int) := by
      have hl : i < s.data.toList.length := by simpa using hil
      unfold bt
      rw [dif_pos (by simpa using hil), List.getD, List.getElem?_eq_getElem hl]
      simp only [Int.toNat_natCast, Option.getD_some, Array.getElem_toList]
      rfl
    rw [eb]
    exact h
theorem rhash_ex (s : ByteArray) (hs : s.size ≤ 1048576) : ∃ k, lodestarref01_Hash.f k s = some (hashOf s) := ⟨_, rh_l0 s hs s.size 0 (by omega) (by omega)⟩

/-! ### the entries of sorted hashes -/
theorem IsEnts.perm {hs hs' : List Int} {E : List S41} (h : IsEnts hs E) (hp : hs.Perm hs') : IsEnts hs' E :=
  ⟨h.r, fun e he => ⟨hp.mem_iff.1 (h.a e he).1, by rw [← hp.count_eq]; exact (h.a e he).2⟩, fun x hx => h.b x (hp.mem_iff.2 hx)⟩
theorem ents_perm {hs hs' : List Int} (hp : hs.Perm hs') : ents hs = ents hs' := IsEnts.unique ((ents_is hs).perm hp) (ents_is hs')
theorem ents_snoc (hs : List Int) (h : Int) : ents (hs ++ [h]) = insE h (ents hs) := by unfold ents; simp
theorem insE_far (h : Int) : ∀ E : List S41, (∀ e ∈ E, e.f1 < h) → insE h E = E ++ [⟨1, h⟩]
  | [], _ => rfl
  | e :: r, H => by
    have h0 := H e (by simp)
    unfold insE
    rw [if_neg (by omega), if_neg (by omega), insE_far h r (fun e he => H e (by simp [he]))]
    rfl
theorem insE_near (h n : Int) : ∀ E : List S41, (∀ e ∈ E, e.f1 < h) → insE h (E ++ [⟨n, h⟩]) = E ++ [⟨n + 1, h⟩]
  | [], _ => by simp [insE]
  | e :: r, H => by
    have h0 := H e (by simp)
    rw [List.cons_append]
    unfold insE
    rw [if_neg (by omega), if_neg (by omega), insE_near h n r (fun e he => H e (by simp [he]))]
    rfl
/-- The next of sorted hashes: like the last entry's, or greater than all. -/
theorem ents_step {hs : List Int} (hp : hs.Pairwise (· ≤ ·)) {i : Nat} (hi : i < hs.length) :
    (0 < (ents (hs.take i)).length ∧ (rd_T41 (ents (hs.take i)) (((ents (hs.take i)).length : Int) - 1)).f1 = hs[i] ∧
      ents (hs.take (i + 1)) = (ents (hs.take i)).set ((ents (hs.take i)).length - 1) ⟨(rd_T41 (ents (hs.take i)) (((ents (hs.take i)).length : Int) - 1)).f0 + 1, hs[i]⟩) ∨
    ((ents (hs.take i)).length = 0 ∨ (rd_T41 (ents (hs.take i)) (((ents (hs.take i)).length : Int) - 1)).f1 ≠ hs[i]) ∧ ents (hs.take (i + 1)) = ents (hs.take i) ++ [⟨1, hs[i]⟩] := by
  have I := ents_is (hs.take i)
  rw [List.take_succ_eq_append_getElem hi, ents_snoc]
  have hle : ∀ e ∈ ents (hs.take i), e.f1 ≤ hs[i] := fun e he => by
    have h1 := (I.a e he).1
    obtain ⟨j, hj, h2⟩ := List.getElem_of_mem h1
    rw [List.length_take] at hj
    rw [List.getElem_take] at h2
    rw [← h2]
    exact List.pairwise_iff_getElem.1 hp j i (by omega) hi (by omega)
  have hr := I.r
  clear I
  generalize ents (hs.take i) = E at *
  generalize hs[i] = h at *
  rcases List.eq_nil_or_concat E with rfl | ⟨F, e, rfl⟩
  · exact Or.inr ⟨Or.inl rfl, rfl⟩
  · rw [List.concat_eq_append] at *
    rw [List.pairwise_append] at hr
    have hF : ∀ x ∈ F, x.f1 < e.f1 := fun x hx => hr.2.2 x hx e (by simp)
    have hl : (((F ++ [e]).length : Int) - 1).toNat = F.length := by simp
    have erd : rd_T41 (F ++ [e]) (((F ++ [e]).length : Int) - 1) = e := by
      unfold rd_T41
      rw [hl]
      simp
    have hee := hle e (by simp)
    rw [erd]
    by_cases he : e.f1 = h
    · refine Or.inl ⟨by simp, he, ?_⟩
      obtain ⟨n, h'⟩ := e
      simp only at he hF
      subst he
      rw [insE_near _ _ F hF, show (F ++ [(⟨n, h'⟩ : S41)]).length - 1 = F.length by simp]
      simp
    · refine Or.inr ⟨Or.inr he, insE_far h _ fun x hx => ?_⟩
      rcases List.mem_append.1 hx with h1 | h1
      · have := hF x h1; omega
      · simp only [List.mem_singleton] at h1
        subst h1; omega
theorem ents_len (hs : List Int) : (ents hs).length ≤ hs.length := by
  have len_ins : ∀ (h : Int) (E : List S41), (insE h E).length ≤ E.length + 1 := by
    intro h E
    induction E with
    | nil => simp [insE]
    | cons e r ih =>
      unfold insE
      split
      · simp
      · split
        · simp
        · simp; omega
  have key : ∀ (hs : List Int) (E : List S41), (hs.foldl (fun E h => insE h E) E).length ≤ E.length + hs.length := by
    intro hs
    induction hs with
    | nil => intro E; simp
    | cons h r ih => intro E; have h1 := ih (insE h E); have h2 := len_ins h E; simp only [List.foldl_cons, List.length_cons]; omega
  have := key hs []
  simpa [ents] using this
end Go.Proofs.Ytihanpdfnpgnfaa.H
