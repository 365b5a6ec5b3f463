/- Words: the plain law of WordsOrder; rows of points of the call's own whose insides lie in what came in. -/
import Derived.Test.YtcpaejdipohndaaVParts
import Derived.Test.YtcpaejdipohndaaVKinds
import Derived.Deep.RegionHeld
namespace Go.Proofs.Ytcpaejdipohndaa.V
open Go.RowKit Go.Sort Go.Shelf Go.Lib Go.Maps Go.Proofs.YtcpaejdipohndaaW.PrintWords Go.Proofs.Ytcpaejdipohndaa.PAll Go.Proofs.Ytcpaejdipohndaa.R
set_option linter.unusedVariables false
/-! ### the plain law -/
def hasId (o : List Pt) (id : Int) : Bool := o.any (fun q => decide (q.f0 = id))
def addF (o : List Pt) (p : Pt) : List Pt := if hasId o p.f0 = true then o else o ++ [p]
def firsts (l : List Pt) : List Pt := l.foldl addF []
theorem firsts_snoc (l : List Pt) (p : Pt) : firsts (l ++ [p]) = addF (firsts l) p := by unfold firsts; rw [List.foldl_append]; rfl
theorem hasId_iff {o : List Pt} {id : Int} : hasId o id = true ↔ ∃ q ∈ o, q.f0 = id := by
  unfold hasId; rw [List.any_eq_true]; simp
theorem hasId_snoc (o : List Pt) (q : Pt) (id : Int) : hasId (o ++ [q]) id = (hasId o id || decide (q.f0 = id)) := by unfold hasId; rw [List.any_append]; simp
theorem firsts_le (l : List Pt) : (firsts l).length ≤ l.length := by
  induction l using snocInd with
  | h0 => simp [firsts]
  | h1 l p ih => rw [firsts_snoc]; unfold addF; split <;> simp <;> omega
theorem firsts_mem (l : List Pt) : ∀ p ∈ firsts l, p ∈ l := by
  induction l using snocInd with
  | h0 => intro p h; simp [firsts] at h
  | h1 l q ih =>
    intro p h
    rw [firsts_snoc] at h
    unfold addF at h
    split at h
    · exact List.mem_append.2 (.inl (ih p h))
    · rcases List.mem_append.1 h with h | h
      · exact List.mem_append.2 (.inl (ih p h))
      · exact List.mem_append.2 (.inr h)
/-- No id twice. -/
def Unlike (l : List Pt) : Prop := l.Pairwise (fun p q => p.f0 ≠ q.f0)
theorem firsts_unlike (l : List Pt) : Unlike (firsts l) := by
  induction l using snocInd with
  | h0 => simp [firsts, Unlike]
  | h1 l p ih =>
    rw [firsts_snoc]
    unfold addF
    split
    · exact ih
    · next h =>
      unfold Unlike
      rw [List.pairwise_append]
      refine ⟨ih, by simp, fun a ha b hb e => ?_⟩
      simp at hb
      subst hb
      exact h (hasId_iff.2 ⟨a, ha, e⟩)
theorem last_unlike {l : List Pt} (h : Unlike l) {p : Pt} (hp : p ∈ l) : lastP l p.f0 = some p := by
  induction l using snocInd with
  | h0 => simp at hp
  | h1 l q ih =>
    unfold Unlike at h
    rw [List.pairwise_append] at h
    obtain ⟨h1, _, h2⟩ := h
    rw [lastP_snoc]
    rcases List.mem_append.1 hp with hp | hp
    · have hne := h2 p hp q (by simp)
      rw [if_neg (fun e => hne e.symm)]
      exact ih h1 hp
    · simp at hp
      subst hp
      rw [if_pos rfl]
theorem last_none {l : List Pt} {id : Int} (h : ∀ p ∈ l, p.f0 ≠ id) : lastP l id = none := by
  cases hh : lastP l id with
  | none => rfl
  | some p => obtain ⟨h1, h2⟩ := lastP_mem l id p hh; exact absurd h2 (h p h1)
theorem last_reverse {l : List Pt} (h : Unlike l) (id : Int) : lastP l.reverse id = lastP l id := by
  have h' : Unlike l.reverse := by unfold Unlike; rw [List.pairwise_reverse]; exact h.imp (fun hab e => hab e.symm)
  by_cases hx : ∃ p ∈ l, p.f0 = id
  · obtain ⟨p, hp, rfl⟩ := hx
    rw [last_unlike h hp, last_unlike h' (List.mem_reverse.2 hp)]
  · have hn : ∀ p ∈ l, p.f0 ≠ id := fun p hp e => hx ⟨p, hp, e⟩
    rw [last_none hn, last_none (fun p hp => hn p (List.mem_reverse.1 hp))]
theorem valOf_reverse {l : List Pt} (h : Unlike l) (name : ByteArray) (id : Int) : valOf l.reverse name id = valOf l name id := by unfold valOf; rw [last_reverse h]
theorem find_reverse {l : List Pt} (h : Unlike l) (name : ByteArray) (v : Va) : findL l.reverse name v = findL l name v :=
  H.rising_ext (union_rising _) (union_rising _) (fun x => by
    have a : x ∈ findL l.reverse name v ↔ x ∈ findL l name v := by rw [mem_findL, mem_findL, valOf_reverse h]
    exact a)
theorem any_reverse {l : List Pt} (h : Unlike l) (name : ByteArray) : anyL l.reverse name = anyL l name :=
  H.rising_ext (union_rising _) (union_rising _) (fun x => by
    have a : x ∈ anyL l.reverse name ↔ x ∈ anyL l name := by rw [mem_anyL, mem_anyL]; simp only [valOf_reverse h]
    exact a)
theorem vals_reverse {l : List Pt} (h : Unlike l) {name : ByteArray} {E E' : List Va} (hE : IsVals l name E) (hE' : IsVals l.reverse name E') : E' = E :=
  rise_eq _ _ hE'.1 hE.1 (fun v => by rw [hE.2, hE'.2, find_reverse h])
theorem vals_one {l : List Pt} {name : ByteArray} {E E' : List Va} (hE : IsVals l name E) (hE' : IsVals l name E') : E' = E :=
  rise_eq _ _ hE'.1 hE.1 (fun v => by rw [hE.2, hE'.2])
theorem goodL_sub {l o : List Pt} (h : GoodL l) (hs : ∀ p ∈ o, p ∈ l) : GoodL o := ⟨fun p hp => h.ids p (hs p hp), fun p hp => h.len p (hs p hp), fun p hp => h.vals p (hs p hp)⟩
/-! ### rows of points -/
/-- A row of the call's own: its points' insides lie in W. -/
def RowP (W : World) (base : Nat) (w : World) (v : Value) (ps : List Pt) : Prop := OwnRow (k33.K W) 33 3 w base v ps
theorem RowP.C {W w : World} {base : Nat} {v : Value} {ps : List Pt} (h : RowP W base w v ps) (hB : Below W.heap.size W w) : ∃ A c, v = .slice A ps.length c ∧ ps.length ≤ c ∧ Kd.C k33 w A ps.length ps := by
  obtain ⟨A, c, rfl, hc, hr⟩ := OwnRow.reads h
  exact ⟨A, c, rfl, hc, ReadsRow.imp_ hr (Below.refl _ _) (fun p cs hp => k33.K_below hB hp)⟩
theorem pts_full {w : World} {A : Option Addr} {xs : List Pt} (h : Kd.C k33 w A xs.length xs) (hn : 0 < xs.length) :
    ∃ b off, A = some ⟨b, off, none⟩ ∧ b < w.heap.size ∧ ∀ j (hj : j < xs.length), ∃ A1 c1 A2 c2, w.cell? ⟨b, off + j * 3, none⟩ = some (.int .i64 xs[j].f0) ∧ w.cell? ⟨b, off + j * 3 + 1, none⟩ = some (.slice A1 xs[j].f1.length c1) ∧ w.cell? ⟨b, off + j * 3 + 2, none⟩ = some (.slice A2 xs[j].f2.length c2) ∧ k33.K w xs[j] [.int .i64 xs[j].f0, .slice A1 xs[j].f1.length c1, .slice A2 xs[j].f2.length c2] := by
  obtain ⟨b, off, rfl, hb, _⟩ := pts_of_C h hn
  refine ⟨b, off, rfl, hb, fun j hj => ?_⟩
  obtain ⟨ad, A1, c1, A2, c2, e, h1, h2, h3, h4, h5, h6, h7⟩ := at_T33 h (j : Int) (by omega) (by omega)
  cases e
  have ea : ((⟨b, off, none⟩ : Addr).add ((j : Int).toNat * 3)) = ⟨b, off + j * 3, none⟩ := by unfold Addr.add; split <;> simp_all
  rw [ea] at h1 h2 h3
  have er : rd_T33 xs (j : Int) = xs[j] := by unfold rd_T33; simp [hj]
  rw [er] at h1 h2 h3 h4 h5 h6 h7
  exact ⟨A1, c1, A2, c2, h1, h2, h3, k33_mk w xs[j] h4 h5 h6 h7⟩
theorem infoP : (Try.prog.info? 33).map (fun i => (i.zero, i.size, i.bytes)) = some (some (.agg #[.int .i64 0, .slice none 0 0, .slice none 0 0]), 3, 56) := by kernel_rfl
section
variable {ops : Array Oper} {rest : List Oper} {o : Oper} {a : Act} {Q : Exit → Act → World → Prop}
theorem wpList_append_p {W0 W : World} {base : Nat} {v : Value} {ps : List Pt} {p : Pt} {cs : List Value} (hgd : o.guard = none) (s x : Operand)
    (ho : o.op = .call { callee := .builtin .append, args := #[s, x], argTypes := #[22, 22] }) (hs : a.eval s = v) (hx : a.eval x = .slice (some ⟨W.heap.size, 0, none⟩) 1 1)
    (hp : k33.K W0 p cs) (hr : RowP W0 base W v ps) (hbase : base ≤ W.heap.size) (hl : ps.length ≤ 1048576)
    (h : ∀ v1 w1, RowP W0 base w1 v1 (ps ++ [p]) → Below base W w1 → wpList Try.prog ops Q rest (a.put o.dst v1) w1) : wpList Try.prog ops Q (o :: rest) a (W.alloc (.cells cs.toArray 33)) :=
  OwnRow.append (w0 := W) base hgd s x 22 33 _ 3 56 ho Try.underlying22 infoP rfl (by decide) (by decide) v ps p cs hs hx hp (k33.K_len hp) (k33.K_one hp) hr (Below.refl _ _) hbase (by omega) (fun v1 w1 h1 h2 _ _ => h v1 w1 h1 h2)
end
end Go.Proofs.Ytcpaejdipohndaa.V
