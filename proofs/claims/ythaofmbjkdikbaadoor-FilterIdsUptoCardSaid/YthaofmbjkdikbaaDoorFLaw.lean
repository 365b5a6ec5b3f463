/- Filter: the plain law of FilterIds. -/
import Derived.Test.YthaofmbjkdikbaaDoorFIds
import Derived.Test.YthaofmbjkdikbaaDoorFKinds
import Derived.Test.YthaofmbjkdikbaaDoorHPut
import Derived.Test.YthaofmbjkdikbaaDoorPAllx15
namespace Go.Proofs.YthaofmbjkdikbaaDoor.F
open Go.RowKit Go.Lib Go.Sort Go.Shelf Go.Proofs.YthaofmbjkdikbaaDoorW.PrintWords Go.Proofs.YthaofmbjkdikbaaDoor.PAll Go.Proofs.YthaofmbjkdikbaaDoor.V
set_option linter.unusedVariables false
theorem insL_rising {l : List Int} (h : l.Pairwise (· < ·)) (n : Int) : (H.insL l n).Pairwise (· < ·) := by
  unfold H.insL
  split
  · exact h
  · rw [List.pairwise_append]
    refine ⟨h.filter _, ?_, ?_⟩
    · rw [List.pairwise_cons]
      exact ⟨fun a ha => by simpa using (List.mem_filter.1 ha).2, h.filter _⟩
    · intro a ha b hb
      have h1 : a < n := by simpa using (List.mem_filter.1 ha).2
      rcases List.mem_cons.1 hb with hb | hb
      · omega
      · have h2 : n < b := by simpa using (List.mem_filter.1 hb).2
        omega
theorem mem_insL {l : List Int} {n x : Int} : x ∈ H.insL l n ↔ x = n ∨ x ∈ l := by
  unfold H.insL
  split
  · next h => constructor
              · exact .inr
              · rintro (rfl | h')
                · exact h
                · exact h'
  · next h =>
    rw [List.mem_append, List.mem_cons, List.mem_filter, List.mem_filter]
    simp only [decide_eq_true_eq]
    constructor
    · rintro (⟨h1, _⟩ | rfl | ⟨h1, _⟩)
      · exact .inr h1
      · exact .inl rfl
      · exact .inr h1
    · rintro (rfl | h1)
      · exact .inr (.inl rfl)
      · rcases Int.lt_trichotomy x n with h2 | h2 | h2
        · exact .inl ⟨h1, h2⟩
        · exact absurd (h2 ▸ h1) h
        · exact .inr (.inr ⟨h1, h2⟩)
theorem two_filters (l : List Int) (n : Int) : (l.filter fun x => decide (x < n)).length + (l.filter fun x => decide (n < x)).length ≤ l.length := by
  induction l with
  | nil => simp
  | cons a l ih =>
    rw [List.filter_cons, List.filter_cons, List.length_cons]
    split <;> split <;> simp_all <;> omega
theorem insL_le (l : List Int) (n : Int) : (H.insL l n).length ≤ l.length + 1 := by
  unfold H.insL
  split
  · omega
  · next h =>
    rw [List.length_append, List.length_cons]
    have := two_filters l n
    omega

/-- The ids of a list put into a rising one. -/
theorem fold_rising (l : List Int) : ∀ {o : List Int}, o.Pairwise (· < ·) → (l.foldl H.insL o).Pairwise (· < ·) := by
  induction l with
  | nil => intro o h; exact h
  | cons x r ih => intro o h; exact ih (insL_rising h x)
theorem mem_fold (l : List Int) : ∀ {o : List Int} {x : Int}, x ∈ l.foldl H.insL o ↔ x ∈ o ∨ x ∈ l := by
  induction l with
  | nil => intro o x; simp
  | cons a l ih =>
    intro o x
    rw [List.foldl_cons, ih, mem_insL, List.mem_cons]
    constructor
    · rintro ((h | h) | h)
      · exact .inr (.inl h)
      · exact .inl h
      · exact .inr (.inr h)
    · rintro (h | h | h)
      · exact .inl (.inr h)
      · exact .inl (.inl h)
      · exact .inr h
theorem put_eq {l : List Int} (hs : l.Pairwise (· < ·)) (hl : l.length ≤ 1048576) (x : Int) : lodestarref08_Put.f l x = some (H.insL l x) := by
  unfold lodestarref08_Put.f
  rw [if_pos hs, if_pos (by omega)]
theorem rpf_eq {c : Cn} (hs : Small c) (p : Pt) (hp : p.f2.length ≤ 1048576) : lodestarref16_Passes.f c.f0 c.f1 c.f2.f0 c.f2.f1 c.f2.f2 c.f3 c.f4 c.f5 p.f0 p.f1 p.f2 = some (passC p.f2 c) := by
  obtain ⟨c0, c1, ⟨v0, v1, v2⟩, c3, c4, c5⟩ := c
  unfold lodestarref16_Passes.f
  rw [if_pos (smallB_of hs), if_pos hp]
theorem rids_ev {c : Cn} (hs : Small c) (l : List Pt) (hl : l.length ≤ 1048576) (hf : ∀ p ∈ l, p.f2.length ≤ 1048576) : ∀ (d i : Nat) (out : List Int), i + d = l.length → out.Pairwise (· < ·) → out.length + d ≤ 1048576 →
    ∃ k, lodestarref16_Ids.l0 k l out (i : Int) c.f0 c.f1 c.f2.f0 c.f2.f1 c.f2.f2 c.f3 c.f4 c.f5 = some ((idsOf c (l.drop i)).foldl H.insL out)
  | 0, i, out, h, hp, ho => ⟨1, by
    have hi : i = l.length := by omega
    subst hi
    rw [lodestarref16_Ids.l0, if_neg (by omega), List.drop_length]
    rfl⟩
  | d + 1, i, out, h, hp, ho => by
    have hi : i < l.length := by omega
    have hpf := rpf_eq hs l[i] (hf _ (List.getElem_mem hi))
    cases hq : passC l[i].f2 c with
    | true =>
      have hle := insL_le out l[i].f0
      obtain ⟨k, hk⟩ := rids_ev hs l hl hf d (i + 1) (H.insL out l[i].f0) (by omega) (insL_rising hp _) (by omega)
      refine ⟨k + 1, ?_⟩
      rw [lodestarref16_Ids.l0, if_pos (by omega), if_pos (by omega), rdP hi, hpf, hq, Option.bind_some, if_pos rfl, put_eq hp (by omega), Option.bind_some, wr_next (by omega), hk, List.drop_eq_getElem_cons hi, idsOf_cons, if_pos hq]
      rfl
    | false =>
      obtain ⟨k, hk⟩ := rids_ev hs l hl hf d (i + 1) out (by omega) hp (by omega)
      refine ⟨k + 1, ?_⟩
      rw [lodestarref16_Ids.l0, if_pos (by omega), if_pos (by omega), rdP hi, hpf, hq, Option.bind_some, if_neg (by simp), wr_next (by omega), hk, List.drop_eq_getElem_cons hi, idsOf_cons, if_neg (by rw [hq]; simp)]
theorem fold_union (l : List Int) : l.foldl H.insL [] = unionL l := H.rising_ext (fold_rising l (by simp)) (union_rising l) (fun x => by rw [mem_fold, mem_unionL]; simp)
theorem rids {c : Cn} (hs : Small c) (l : List Pt) (hl : l.length ≤ 1048576) (hf : ∀ p ∈ l, p.f2.length ≤ 1048576) :
    ∃ k, lodestarref16_Ids.f k c.f0 c.f1 c.f2.f0 c.f2.f1 c.f2.f2 c.f3 c.f4 c.f5 l = some (unionL (idsOf c l)) := by
  obtain ⟨k, hk⟩ := rids_ev hs l hl hf l.length 0 [] (by omega) (by simp) (by simp; omega)
  rw [List.drop_zero, fold_union] at hk
  exact ⟨k, hk⟩
theorem rd_self (l : List Int) (i : Int) : rd l i = rd l i := rfl
theorem same_ev (l : List Int) (hl : l.length ≤ 1048576) : ∀ (d i : Nat), i + d = l.length → ∃ k, lodestarref08_Same.l0 k l l (i : Int) = some true
  | 0, i, h => ⟨1, by rw [lodestarref08_Same.l0, if_neg (by omega)]⟩
  | d + 1, i, h => by
    obtain ⟨k, hk⟩ := same_ev l hl d (i + 1) (by omega)
    exact ⟨k + 1, by rw [lodestarref08_Same.l0, if_pos (by omega), if_pos (by omega), if_pos (by omega), if_pos rfl, wr_next (by omega), hk]⟩
theorem same_self (l : List Int) (hl : l.length ≤ 1048576) : ∃ k, lodestarref08_Same.f k l l = some true := by
  obtain ⟨k, hk⟩ := same_ev l hl l.length 0 (by omega)
  exact ⟨k, by rw [lodestarref08_Same.f, if_pos rfl]; exact hk⟩
theorem up_fids {k k' : Nat} (hk : k ≤ k') {a0 a1 a2 a3 a4 a5 a6 a7 a8 r} (h : filter_Ids.f k a0 a1 a2 a3 a4 a5 a6 a7 a8 = some r) : filter_Ids.f k' a0 a1 a2 a3 a4 a5 a6 a7 a8 = some r := by
  induction hk with
  | refl => exact h
  | step _ ih => exact filter_Ids.mono _ _ _ _ _ _ _ _ _ _ _ ih
theorem up_rids {k k' : Nat} (hk : k ≤ k') {a0 a1 a2 a3 a4 a5 a6 a7 a8 r} (h : lodestarref16_Ids.f k a0 a1 a2 a3 a4 a5 a6 a7 a8 = some r) : lodestarref16_Ids.f k' a0 a1 a2 a3 a4 a5 a6 a7 a8 = some r := by
  induction hk with
  | refl => exact h
  | step _ ih => exact lodestarref16_Ids.mono _ _ _ _ _ _ _ _ _ _ _ ih
theorem up_same {k k' : Nat} (hk : k ≤ k') {a0 a1 r} (h : lodestarref08_Same.f k a0 a1 = some r) : lodestarref08_Same.f k' a0 a1 = some r := by
  induction hk with
  | refl => exact h
  | step _ ih => exact lodestarref08_Same.mono _ _ _ _ ih
theorem filterIds_ev {c : Cn} (hs : Small c) (l : List Pt) (hl : l.length ≤ 1048576) (hf : ∀ p ∈ l, p.f2.length ≤ 1048576) :
    ∃ k, lodestarlaw16_FilterIds.f k c.f0 c.f1 c.f2.f0 c.f2.f1 c.f2.f2 c.f3 c.f4 c.f5 l = some true := by
  obtain ⟨k1, h1⟩ := fids hs l hl hf
  obtain ⟨k2, h2⟩ := rids hs l hl hf
  obtain ⟨k3, h3⟩ := same_self (unionL (idsOf c l)) (Nat.le_trans (unionL_le _) (Nat.le_trans (idsOf_le c l) hl))
  refine ⟨k1 + k2 + k3, ?_⟩
  rw [lodestarlaw16_FilterIds.f, up_fids (by omega) h1, Option.bind_some, up_rids (by omega) h2, Option.bind_some, up_same (by omega) h3, Option.bind_some, if_pos rfl]
  rfl
end Go.Proofs.YthaofmbjkdikbaaDoor.F
namespace Go.Proofs.YthaofmbjkdikbaaDoor.H
open Go.RowKit Go.Lib Go.Proofs.YthaofmbjkdikbaaDoorW.PrintWords Go.Proofs.YthaofmbjkdikbaaDoor.PAll Go.Proofs.YthaofmbjkdikbaaDoor.V Go.Proofs.YthaofmbjkdikbaaDoor.R Go.Proofs.YthaofmbjkdikbaaDoor.F
theorem filterIds_walk (cs : List Value) (c : Cn) (A : Option Addr) (n : Nat) (l : List Pt) (W : World) (hK : k26.K W c cs) (hs : Small c) (hC : Kd.C k30 W A l.length l) (hn : l.length ≤ n) (hG : AllG GPt l) :
    Calls Tryd.prog 4 #[.agg cs.toArray, .slice A l.length n] W fun e W' => e = .returned (.bool true) ∧ Below W.heap.size W W' := by
  obtain ⟨A7, c7, rfl, h7, hC7⟩ := k26_open hK
  obtain ⟨k, hk⟩ := filterIds_ev hs l hG.1 (fun p hp => (hG.2 p hp).2.2.1)
  exact lodestarlaw16_FilterIds.calls k _ _ _ _ _ _ _ A7 c7 _ A n l true W hC7 h7 hC hn hk
end Go.Proofs.YthaofmbjkdikbaaDoor.H
