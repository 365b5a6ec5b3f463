/- Words: what the document's own rows hold: the answers by rows are the answers by points. -/
import Derived.Test.YtcpaejdipohndaaVRefRows
namespace Go.Proofs.Ytcpaejdipohndaa.V
open Go.RowKit Go.Sort Go.Shelf Go.Lib Go.Maps Go.Proofs.YtcpaejdipohndaaW.PrintWords Go.Proofs.Ytcpaejdipohndaa.PAll Go.Proofs.Ytcpaejdipohndaa.R Go.Proofs.Ytcpaejdipohndaa.H
set_option linter.unusedVariables false
theorem cmpV_zero {a b : Va} : cmpV a b = 0 ↔ a = b := by
  constructor
  · intro h
    refine Classical.byContradiction fun hne => ?_
    cases h1 : ltV b a with
    | false =>
      have h2 := ltV_total hne h1
      unfold ltV at h2
      rw [decide_eq_true_eq] at h2
      omega
    | true =>
      rw [ltV_iff] at h1
      unfold cmpV orI cmpI cmpS at h
      rw [bytesLess_eq] at h
      rcases h1 with h1 | ⟨e1, h1 | ⟨e2, h1⟩⟩
      · simp [show ¬ a.f0 < b.f0 by omega, h1] at h
      · simp [e1, show ¬ a.f1 < b.f1 by omega, h1] at h
      · have h3 : ¬ a.f2.toList < b.f2.toList := fun h3 => List.lt_irrefl _ (List.lt_trans h1 h3)
        have h4 : a.f2.toList ≠ b.f2.toList := fun e => List.lt_irrefl _ (e ▸ h1)
        simp [e1, e2, h3, h4] at h
  · rintro rfl
    have h3 := List.lt_irrefl a.f2.toList
    unfold cmpV orI cmpI cmpS
    rw [bytesLess_eq]
    simp [h3]
def Dist (o : List Rw) : Prop := o.Pairwise fun a b => a.f0 ≠ b.f0
theorem mem_putRow {r : Rw} : ∀ {o : List Rw}, Dist o → ∀ x, x ∈ putRow o r ↔ x = r ∨ (x ∈ o ∧ x.f0 ≠ r.f0)
  | [], _, x => by simp [putRow]
  | y :: o, h, x => by
    unfold Dist at h
    rw [List.pairwise_cons] at h
    rw [putRow]
    split
    · next e =>
      rw [List.mem_cons, List.mem_cons]
      constructor
      · rintro (h1 | h1)
        · exact .inl h1
        · exact .inr ⟨.inr h1, fun e2 => h.1 x h1 (e.trans e2.symm)⟩
      · rintro (h1 | ⟨h1 | h1, h2⟩)
        · exact .inl h1
        · subst h1; exact absurd e h2
        · exact .inr h1
    · next e =>
      rw [List.mem_cons, List.mem_cons, mem_putRow h.2]
      constructor
      · rintro (h1 | h1 | h1)
        · subst h1; exact .inr ⟨.inl rfl, e⟩
        · exact .inl h1
        · exact .inr ⟨.inr h1.1, h1.2⟩
      · rintro (h1 | ⟨h1 | h1, h2⟩)
        · exact .inr (.inl h1)
        · exact .inl h1
        · exact .inr (.inr ⟨h1, h2⟩)
theorem putRow_dist {r : Rw} : ∀ {o : List Rw}, Dist o → Dist (putRow o r)
  | [], _ => by simp [putRow, Dist]
  | y :: o, h => by
    unfold Dist at h
    rw [List.pairwise_cons] at h
    rw [putRow]
    split
    · next e => exact List.pairwise_cons.2 ⟨fun x hx e2 => h.1 x hx (e.trans e2), h.2⟩
    · next e =>
      refine List.pairwise_cons.2 ⟨fun x hx => ?_, putRow_dist h.2⟩
      rcases (mem_putRow h.2 x).1 hx with h1 | h1
      · subst h1; exact e
      · exact h.1 x h1.1
theorem rows_hold (l : List Pt) (name : ByteArray) : Dist (rowsL l name) ∧ ∀ r, r ∈ rowsL l name ↔ ∃ p, lastP l r.f0 = some p ∧ r = rowOf name p := by
  induction l using snocInd with
  | h0 => exact ⟨List.Pairwise.nil, fun r => by simp [rowsL, lastP]⟩
  | h1 l p ih =>
    have e : rowsL (l ++ [p]) name = putRow (rowsL l name) (rowOf name p) := by unfold rowsL; rw [List.foldl_append]; rfl
    rw [e]
    refine ⟨putRow_dist ih.1, fun r => ?_⟩
    rw [mem_putRow ih.1, ih.2, lastP_snoc]
    constructor
    · rintro (rfl | ⟨⟨q, h1, h2⟩, h3⟩)
      · exact ⟨p, by simp [rowOf], rfl⟩
      · exact ⟨q, by rw [if_neg (fun e => h3 e.symm)]; exact h1, h2⟩
    · rintro ⟨q, h1, h2⟩
      split at h1
      · cases h1; exact .inl h2
      · next e => exact .inr ⟨⟨q, h1, h2⟩, fun e2 => e e2.symm⟩
/-- A value that a row has. -/
theorem row_val {l : List Pt} {name : ByteArray} {x : Int} {v : Va} : (∃ r ∈ rowsL l name, (r.f2 = true ∧ r.f1 = v) ∧ r.f0 = x) ↔ valOf l name x = some v := by
  constructor
  · rintro ⟨r, hr, ⟨h2, h3⟩, rfl⟩
    obtain ⟨p, hp, e⟩ := ((rows_hold l name).2 r).1 hr
    unfold valOf
    rw [hp, Option.bind_some]
    rw [e] at h2 h3
    obtain ⟨u, hu⟩ := Option.isSome_iff_exists.1 h2
    rw [hu]
    simp only [rowOf, hu, Option.getD_some] at h3
    rw [h3]
  · intro h
    unfold valOf at h
    rw [Option.bind_eq_some_iff] at h
    obtain ⟨p, hp, hv⟩ := h
    have hid := (lastP_mem l x p hp).2
    exact ⟨rowOf name p, ((rows_hold l name).2 _).2 ⟨p, by rw [show (rowOf name p).f0 = p.f0 from rfl, hid]; exact hp, rfl⟩, ⟨by simp [rowOf, hv], by simp [rowOf, hv]⟩, hid⟩
theorem find_rows (l : List Pt) (name : ByteArray) (v : Va) : selR (qF v) (rowsL l name) = findL l name v := by
  refine H.rising_ext (selR_rising _ _) (union_rising _) fun x => ?_
  show _ ↔ x ∈ findL l name v
  rw [mem_selR, mem_findL, ← row_val]
  constructor
  · rintro ⟨r, hr, hq, h0⟩
    unfold qF at hq
    rw [Bool.and_eq_true, decide_eq_true_eq, cmpV_zero] at hq
    exact ⟨r, hr, hq, h0⟩
  · rintro ⟨r, hr, hq, h0⟩
    refine ⟨r, hr, ?_, h0⟩
    unfold qF
    rw [Bool.and_eq_true, decide_eq_true_eq, cmpV_zero]
    exact hq
theorem any_rows (l : List Pt) (name : ByteArray) : selR (fun r : Rw => r.f2) (rowsL l name) = anyL l name := by
  refine H.rising_ext (selR_rising _ _) (union_rising _) fun x => ?_
  show _ ↔ x ∈ anyL l name
  rw [mem_selR, mem_anyL]
  constructor
  · rintro ⟨r, hr, hq, h0⟩
    exact ⟨r.f1, row_val.1 ⟨r, hr, ⟨hq, rfl⟩, h0⟩⟩
  · rintro ⟨v, hv⟩
    obtain ⟨r, hr, ⟨h1, _⟩, h0⟩ := row_val.2 hv
    exact ⟨r, hr, h1, h0⟩
/-! ### values, put in by their order -/
def insV : List Va → Va → List Va
  | [], v => [v]
  | x :: o, v => if cmpV x v < 0 then x :: insV o v else if cmpV x v = 0 then x :: o else v :: x :: o
def valsR (l : List Rw) : List Va := l.foldl (fun o r => if r.f2 then insV o r.f1 else o) []
theorem insV_end {v : Va} : ∀ {o : List Va}, (∀ q (hq : q < o.length), cmpV o[q] v < 0) → insV o v = o ++ [v]
  | [], _ => rfl
  | x :: o, h => by
    have h0 := h 0 (by simp)
    simp only [List.getElem_cons_zero] at h0
    rw [insV, if_pos h0, insV_end (fun q hq => by have := h (q + 1) (by simpa using hq); simpa using this)]; rfl
theorem insV_old {v : Va} : ∀ {o : List Va} {a : Nat} (ha : a < o.length), (∀ q (hq : q < o.length), q < a → cmpV o[q] v < 0) → cmpV o[a] v = 0 → insV o v = o
  | x :: o, 0, _, _, h => by
    simp only [List.getElem_cons_zero] at h
    rw [insV, if_neg (by omega), if_pos h]
  | x :: o, a + 1, ha, hn, h => by
    have h0 := hn 0 (by simp) (by omega)
    simp only [List.getElem_cons_zero] at h0
    rw [insV, if_pos h0, insV_old (a := a) (by simpa using ha) (fun q hq hqa => by have := hn (q + 1) (by simpa using hq) (by omega); simpa using this) (by simpa using h)]
theorem insV_new {v : Va} : ∀ {o : List Va} {a : Nat} (ha : a < o.length), (∀ q (hq : q < o.length), q < a → cmpV o[q] v < 0) → ¬ cmpV o[a] v < 0 → ¬ cmpV o[a] v = 0 → insV o v = o.take a ++ [v] ++ o.drop a
  | x :: o, 0, _, _, h1, h2 => by
    simp only [List.getElem_cons_zero] at h1 h2
    rw [insV, if_neg h1, if_neg h2]; rfl
  | x :: o, a + 1, ha, hn, h1, h2 => by
    have h0 := hn 0 (by simp) (by omega)
    simp only [List.getElem_cons_zero] at h0
    rw [insV, if_pos h0, insV_new (a := a) (by simpa using ha) (fun q hq hqa => by have := hn (q + 1) (by simpa using hq) (by omega); simpa using this) (by simpa using h1) (by simpa using h2)]
    rfl
theorem insV_le (v : Va) : ∀ (o : List Va), (insV o v).length ≤ o.length + 1
  | [] => by simp [insV]
  | x :: o => by
    rw [insV]
    split
    · have := insV_le v o; simp; omega
    · split <;> simp
theorem mem_insV {v : Va} : ∀ {o : List Va} (x : Va), x ∈ insV o v ↔ x = v ∨ x ∈ o
  | [], x => by simp [insV]
  | y :: o, x => by
    rw [insV]
    split
    · rw [List.mem_cons, mem_insV, List.mem_cons]
      constructor
      · rintro (h | h | h)
        · exact .inr (.inl h)
        · exact .inl h
        · exact .inr (.inr h)
      · rintro (h | h | h)
        · exact .inr (.inl h)
        · exact .inl h
        · exact .inr (.inr h)
    · split
      · next h =>
        have := cmpV_zero.1 h
        subst this
        constructor
        · exact .inr
        · rintro (h | h)
          · rw [h]; simp
          · exact h
      · rw [List.mem_cons]
theorem ltV_trans {a b c : Va} (h1 : ltV a b = true) (h2 : ltV b c = true) : ltV a c = true := by
  rw [ltV_iff] at *
  rcases h1 with h1 | ⟨e1, h1 | ⟨e2, h1⟩⟩ <;> rcases h2 with h2 | ⟨f1, h2 | ⟨f2, h2⟩⟩
  · exact .inl (by omega)
  · exact .inl (by omega)
  · exact .inl (by omega)
  · exact .inl (by omega)
  · exact .inr ⟨by omega, .inl (by omega)⟩
  · exact .inr ⟨by omega, .inl (by omega)⟩
  · exact .inl (by omega)
  · exact .inr ⟨by omega, .inl (by omega)⟩
  · exact .inr ⟨by omega, .inr ⟨by omega, List.lt_trans h1 h2⟩⟩
theorem insV_rising {v : Va} : ∀ {o : List Va}, o.Pairwise (fun a b => ltV a b = true) → (insV o v).Pairwise (fun a b => ltV a b = true)
  | [], _ => by simp [insV]
  | y :: o, h => by
    rw [List.pairwise_cons] at h
    rw [insV]
    split
    · next hlt =>
      refine List.pairwise_cons.2 ⟨fun x hx => ?_, insV_rising h.2⟩
      rcases (mem_insV x).1 hx with h1 | h1
      · subst h1; unfold ltV; exact decide_eq_true hlt
      · exact h.1 x h1
    · next hlt =>
      split
      · exact List.pairwise_cons.2 h
      · next hz =>
        have hvy : ltV v y = true := ltV_total (fun e => hz (cmpV_zero.2 e.symm)) (by unfold ltV; exact decide_eq_false hlt)
        refine List.pairwise_cons.2 ⟨fun x hx => ?_, List.pairwise_cons.2 h⟩
        rcases List.mem_cons.1 hx with h1 | h1
        · subst h1; exact hvy
        · exact ltV_trans hvy (h.1 x h1)
theorem valsR_snoc (l : List Rw) (r : Rw) : valsR (l ++ [r]) = if r.f2 then insV (valsR l) r.f1 else valsR l := by unfold valsR; rw [List.foldl_append]; rfl
theorem valsR_rising (l : List Rw) : (valsR l).Pairwise (fun a b => ltV a b = true) := by
  induction l using snocInd with
  | h0 => exact List.Pairwise.nil
  | h1 l r ih =>
    rw [valsR_snoc]
    split
    · exact insV_rising ih
    · exact ih
theorem mem_valsR {l : List Rw} {v : Va} : v ∈ valsR l ↔ ∃ r ∈ l, r.f2 = true ∧ r.f1 = v := by
  induction l using snocInd with
  | h0 => simp [valsR]
  | h1 l r ih =>
    rw [valsR_snoc]
    split
    · next h =>
      rw [mem_insV, ih]
      constructor
      · rintro (rfl | ⟨s, hs, h1⟩)
        · exact ⟨r, by simp, h, rfl⟩
        · exact ⟨s, by simp [hs], h1⟩
      · rintro ⟨s, hs, h1, h2⟩
        rcases List.mem_append.1 hs with hs | hs
        · exact .inr ⟨s, hs, h1, h2⟩
        · rw [List.mem_singleton] at hs; subst hs; exact .inl h2.symm
    · next h =>
      rw [ih]
      constructor
      · rintro ⟨s, hs, h1⟩; exact ⟨s, by simp [hs], h1⟩
      · rintro ⟨s, hs, h1, h2⟩
        rcases List.mem_append.1 hs with hs | hs
        · exact ⟨s, hs, h1, h2⟩
        · rw [List.mem_singleton] at hs; subst hs; exact absurd h1 h
theorem vals_rows {l : List Pt} (hG : GoodL l) (name : ByteArray) : IsVals l name (valsR (rowsL l name)) := by
  refine ⟨valsR_rising _, fun v => ?_⟩
  rw [mem_valsR]
  constructor
  · rintro ⟨r, hr, h1, h2⟩
    have hv := row_val.1 ⟨r, hr, ⟨h1, h2⟩, rfl⟩
    exact ⟨valOf_good hG hv, fun e => by have := mem_findL.2 hv; rw [e] at this; cases this⟩
  · rintro ⟨_, h⟩
    obtain ⟨x, hx⟩ := List.exists_mem_of_ne_nil _ h
    obtain ⟨r, hr, h1, _⟩ := row_val.2 (mem_findL.1 hx)
    exact ⟨r, hr, h1⟩
theorem rows_le (l : List Pt) (name : ByteArray) : (rowsL l name).length ≤ l.length := by
  induction l using snocInd with
  | h0 => exact Nat.le_refl _
  | h1 l p ih =>
    have e : rowsL (l ++ [p]) name = putRow (rowsL l name) (rowOf name p) := by unfold rowsL; rw [List.foldl_append]; rfl
    rw [e, List.length_append]
    have := putRow_le (rowOf name p) (rowsL l name)
    simp; omega
theorem valsR_le (l : List Rw) : (valsR l).length ≤ l.length := by
  induction l using snocInd with
  | h0 => exact Nat.le_refl _
  | h1 l r ih =>
    rw [valsR_snoc, List.length_append]
    split
    · have := insV_le r.f1 (valsR l); simp; omega
    · simp; omega
theorem vals_rows_le (l : List Pt) (name : ByteArray) : (valsR (rowsL l name)).length ≤ l.length := Nat.le_trans (valsR_le _) (rows_le l name)
end Go.Proofs.Ytcpaejdipohndaa.V
