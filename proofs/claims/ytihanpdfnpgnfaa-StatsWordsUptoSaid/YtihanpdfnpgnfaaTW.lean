/- StatsWords, plainly: the entries of hashed words rise, each at least one, together all; a word's count is no less than how often it stands there. -/
import Derived.Shelf.Strings.LastIndex
import Derived.Lib.Hide
import Derived.Test.YtihanpdfnpgnfaaTJ
import Derived.Test.YtihanpdfnpgnfaaSMid
import Derived.Test.YtihanpdfnpgnfaaSWord
import Derived.Test.YtihanpdfnpgnfaaPAllx15
namespace Go.Proofs.Ytihanpdfnpgnfaa.Pure
open Go.RowKit Go.Proofs.Ytihanpdfnpgnfaa.PAll Go.Proofs.YtihanpdfnpgnfaaW.PrintWords Go.Proofs.YtihanpdfnpgnfaaW.PrintLast Go.Proofs.YtihanpdfnpgnfaaW.PrintMore
set_option linter.unusedVariables false

theorem rd_41 {E : List S41} {i : Nat} (h : i < E.length) : rd_T41 E (i : Int) = E[i] := by unfold rd_T41; simp [h]
/-- The counts of the first i entries. -/
def sumE (es : List S41) : Nat → Int
  | 0 => 0
  | i + 1 => sumE es i + (rd_T41 es (i : Int)).f0
def totE : List S41 → Int
  | [] => 0
  | e :: r => e.f0 + totE r
theorem totE_ins (h : Int) : ∀ E, totE (H.insE h E) = totE E + 1
  | [] => by simp [H.insE, totE]
  | e :: r => by
    unfold H.insE
    split
    · simp only [totE]; omega
    · split
      · simp only [totE]; omega
      · simp only [totE, totE_ins h r]; omega
theorem len_ins (h : Int) : ∀ E, (H.insE h E).length ≤ E.length + 1
  | [] => by simp [H.insE]
  | e :: r => by
    unfold H.insE
    split
    · simp
    · split
      · simp
      · have := len_ins h r; simp; omega
theorem ents_sum (hs : List Int) : totE (H.ents hs) = hs.length ∧ (H.ents hs).length ≤ hs.length := by
  have key : ∀ (hs : List Int) (E : List S41), totE (hs.foldl (fun E h => H.insE h E) E) = totE E + hs.length ∧ (hs.foldl (fun E h => H.insE h E) E).length ≤ E.length + hs.length := by
    intro hs
    induction hs with
    | nil => intro E; simp
    | cons h r ih =>
      intro E
      have h1 := ih (H.insE h E)
      have h2 := totE_ins h E
      have h3 := len_ins h E
      simp only [List.foldl_cons, List.length_cons]
      omega
  have := key hs []
  simp only [totE, List.length_nil] at this
  unfold H.ents
  omega
theorem sumE_tot (es : List S41) : sumE es es.length = totE es ∧ ∀ i, i ≤ es.length → sumE es i = totE (es.take i) := by
  have h : ∀ i, i ≤ es.length → sumE es i = totE (es.take i) := by
    have app : ∀ (a : List S41) (e : S41), totE (a ++ [e]) = totE a + e.f0 := by
      intro a e
      induction a with
      | nil => simp [totE]
      | cons x r ih => simp only [List.cons_append, totE, ih]; omega
    intro i
    induction i with
    | zero => intro _; simp [sumE, totE]
    | succ i ih =>
      intro hi
      have er : rd_T41 es (i : Int) = es[i] := by unfold rd_T41; simp [show i < es.length from hi]
      rw [sumE, ih (by omega), List.take_succ_eq_append_getElem (show i < es.length from hi), app, er]
  exact ⟨by rw [h _ (Nat.le_refl _), List.take_length], h⟩
theorem ents_pos (hs : List Int) : ∀ e ∈ H.ents hs, 1 ≤ e.f0 := fun e he => by
  obtain ⟨h1, h2⟩ := (H.ents_is hs).a e he
  have := List.count_pos_iff.2 h1
  omega
theorem tot_le {E : List S41} (h : ∀ e ∈ E, 1 ≤ e.f0) (i : Nat) : 0 ≤ totE (E.take i) ∧ totE (E.take i) ≤ totE E := by
  induction E generalizing i with
  | nil => simp [totE]
  | cons e r ih =>
    have h0 := h e (by simp)
    have hr := fun i => ih (fun e he => h e (by simp [he])) i
    cases i with
    | zero => have := hr 0; simp [totE] at *; omega
    | succ i => have := hr i; simp only [List.take_succ_cons, totE]; omega
theorem wordS_count (hs : List Int) (h : Int) : H.wordS (H.ents hs) h = hs.count h := by
  unfold H.wordS
  have I := H.ents_is hs
  cases hf : (H.ents hs).find? (fun e => decide (e.f1 = h)) with
  | some e =>
    have h1 := List.find?_some hf
    have h2 := List.mem_of_find?_eq_some hf
    simp only [decide_eq_true_eq] at h1
    have := (I.a e h2).2
    rw [h1] at this
    exact this
  | none =>
    have h1 := List.find?_eq_none.1 hf
    show (0 : Int) = _
    have : hs.count h = 0 := List.count_eq_zero.2 fun hm => by
      obtain ⟨e, he, h2⟩ := I.b h hm
      exact absurd (decide_eq_true h2) (h1 e he)
    rw [this]; rfl
/-- How often a word stands in the first i. -/
def cntW (s : ByteArray) (l : List ByteArray) : Int := ((l.countP (fun x => decide (x.toList = s.toList)) : Nat) : Int)
theorem cntW_le (s : ByteArray) (l : List ByteArray) : 0 ≤ cntW s l ∧ cntW s l ≤ l.length ∧ cntW s l ≤ ((l.map H.hashOf).count (H.hashOf s) : Nat) := by
  have h1 := List.countP_le_length (p := fun x : ByteArray => decide (x.toList = s.toList)) (l := l)
  have h2 : l.countP (fun x => decide (x.toList = s.toList)) ≤ (l.map H.hashOf).count (H.hashOf s) := by
    rw [List.count, List.countP_map]
    refine List.countP_mono_left fun x _ hx => ?_
    have hx' : x = s := LastIndex.eq_of_toList (by simpa using hx)
    subst hx'; simp
  unfold cntW
  omega
theorem cntW_succ {s : ByteArray} {l : List ByteArray} {i : Nat} (h : i < l.length) : cntW s (l.take (i + 1)) = cntW s (l.take i) + (if (rdOf ByteArray.empty l (i : Int)).toList = s.toList then 1 else 0) := by
  have e : rdOf ByteArray.empty l (i : Int) = l[i] := by unfold rdOf; simp [h]
  rw [e, List.take_succ_eq_append_getElem h]
  unfold cntW
  rw [List.countP_append]
  simp only [List.countP_cons, List.countP_nil, decide_eq_true_eq]
  split <;> simp
theorem sumE_succ (es : List S41) (i : Nat) : sumE es (i + 1) = sumE es i + (rd_T41 es (i : Int)).f0 := rfl
theorem sumE_zero (es : List S41) : sumE es 0 = 0 := rfl
theorem cntW_nil (s : ByteArray) : cntW s [] = 0 := rfl
attribute [local irreducible] cntW totE sumE H.wordS rd_T41
theorem words_l1 (l : List ByteArray) (s : ByteArray) (hl : l.length ≤ 1048576) (hs : s.size ≤ 1048576) (d : Nat) : ∀ (k i : Nat), i ≤ (H.ents (l.map H.hashOf)).length → (H.ents (l.map H.hashOf)).length - i = d → d + 61 < k →
    lodestarlaw15_StatsWords.l1 k l s (cntW s l) (sumE (H.ents (l.map H.hashOf)) i) (i : Int) (l.length : Int) [] (H.ents (l.map H.hashOf)) = some true := by
  have I := H.ents_is (l.map H.hashOf)
  have hp := ents_pos (l.map H.hashOf)
  obtain ⟨ht, hn⟩ := ents_sum (l.map H.hashOf)
  obtain ⟨hs1, hs2⟩ := sumE_tot (H.ents (l.map H.hashOf))
  rw [ht] at hs1
  rw [List.length_map] at hs1 hn ht
  have hw0 := wordS_count (l.map H.hashOf) (H.hashOf s)
  have hc := cntW_le s l
  rw [← hw0] at hc
  have htl := fun i => tot_le hp i
  have hr := I.r
  clear I hw0
  generalize H.ents (l.map H.hashOf) = E at *
  induction d with
  | zero =>
    intro k i hi hd hk
    obtain ⟨k, rfl⟩ : ∃ m, k = m + 1 := ⟨k - 1, by omega⟩
    have : i = E.length := by omega
    subst this
    simp only [lodestarlaw15_StatsWords.l1]
    rw [if_neg (by omega)]
    unfold stats_Word.f
    rw [if_pos ⟨by omega, hs⟩]
    simp only [Option.bind_some]
    rw [if_pos (by omega), if_pos (by omega), if_pos (by simp), awake_eq (by omega)]
    rfl
  | succ d ih =>
    intro k i hi hd hk
    obtain ⟨k, rfl⟩ : ∃ m, k = m + 1 := ⟨k - 1, by omega⟩
    have hil : i < E.length := by omega
    have er : rd_T41 E (i : Int) = E[i] := rd_41 hil
    have h1 := hp E[i] (List.getElem_mem _)
    have ih := ih k (i + 1) (by omega) (by omega) (by omega)
    have hsum : Hid (wrap64 (sumE E i + (rd_T41 E (i : Int)).f0) = sumE E (i + 1)) := Lib.hid <| by
      have h2 := hs2 (i + 1) (by omega)
      have h3 := htl (i + 1)
      rw [← sumE_succ]
      exact w64 (by omega) (by omega)
    have hw : Hid (wrap64 ((i : Int) + 1) = ((i + 1 : Nat) : Int)) := Lib.hid (w64 (by omega) (by omega))
    simp only [lodestarlaw15_StatsWords.l1]
    rw [if_pos (by omega)]
    by_cases h0 : (i : Int) > 0
    · have hm : Hid (wrap64 ((i : Int) - 1) = ((i - 1 : Nat) : Int)) := Lib.hid (by rw [w64 (by omega) (by omega)]; omega)
      have er1 : rd_T41 E ((i - 1 : Nat) : Int) = E[i - 1] := rd_41 (by omega)
      have h4 := List.pairwise_iff_getElem.1 hr (i - 1) i (by omega) hil (by omega)
      rw [if_pos h0, hm.out, if_pos (by omega), if_pos (by omega), if_pos (by omega), if_neg (by rw [er, er1]; omega), if_neg (by rw [er]; omega), hsum.out, hw.out]
      exact ih
    · rw [if_neg h0, if_pos (by omega), if_neg (by rw [er]; omega), hsum.out, hw.out]
      exact ih
theorem words_l0 (l : List ByteArray) (s : ByteArray) (hl : l.length ≤ 1048576) (hs : s.size ≤ 1048576) (d : Nat) : ∀ (k i : Nat), i ≤ l.length → l.length - i = d → d + l.length + 62 < k →
    lodestarlaw15_StatsWords.l0 k l s (cntW s (l.take i)) 0 (i : Int) (l.length : Int) [] (H.ents (l.map H.hashOf)) = some true := by
  induction d with
  | zero =>
    intro k i hi hd hk
    obtain ⟨k, rfl⟩ : ∃ m, k = m + 1 := ⟨k - 1, by omega⟩
    have : i = l.length := by omega
    subst this
    have hn := (ents_sum (l.map H.hashOf)).2
    rw [List.length_map] at hn
    simp only [lodestarlaw15_StatsWords.l0]
    rw [if_neg (by omega), List.take_length]
    have h := words_l1 l s hl hs _ k 0 (by omega) rfl (by omega)
    rw [sumE_zero] at h
    exact h
  | succ d ih =>
    intro k i hi hd hk
    obtain ⟨k, rfl⟩ : ∃ m, k = m + 1 := ⟨k - 1, by omega⟩
    have hil : i < l.length := by omega
    have ih := ih k (i + 1) (by omega) (by omega) (by omega)
    have hw : Hid (wrap64 ((i : Int) + 1) = ((i + 1 : Nat) : Int)) := Lib.hid (w64 (by omega) (by omega))
    have hs1 := cntW_succ (s := s) hil
    have hb := cntW_le s (l.take i)
    have hb2 : ((l.take i).length : Int) ≤ i := by rw [List.length_take]; omega
    simp only [lodestarlaw15_StatsWords.l0]
    rw [if_pos (by omega), if_pos (by omega), hw.out]
    by_cases c : (rdOf ByteArray.empty l (i : Int)).toList = s.toList
    · rw [if_pos c] at hs1 ⊢
      rw [w64 (by omega) (by omega), ← hs1]
      exact ih
    · rw [if_neg c, Int.add_zero] at hs1
      rw [if_neg c, ← hs1]
      exact ih
theorem words_ex (l : List ByteArray) (s : ByteArray) (hl : l.length ≤ 1048576) (hls : ∀ x ∈ l, x.size ≤ 1048576) (hs : s.size ≤ 1048576) {k : Nat} (hk : 2097300 ≤ k) : lodestarlaw15_StatsWords.f k l s = some true := by
  unfold lodestarlaw15_StatsWords.f stats_Build.f
  rw [if_pos ⟨by simp, hl, by simp only [List.all_eq_true, decide_eq_true_eq]; exact hls⟩]
  simp only [Option.bind_some]
  have e : H.bks [] 4 = [] := by simp [H.bks]
  rw [e, show (([] : List Int).length : Int) + (l.length : Int) = (l.length : Int) by simp]
  have h := words_l0 l s hl hs l.length k 0 (by omega) (by omega) (by omega)
  rw [List.take_zero, cntW_nil] at h
  exact h
end Go.Proofs.Ytihanpdfnpgnfaa.Pure
