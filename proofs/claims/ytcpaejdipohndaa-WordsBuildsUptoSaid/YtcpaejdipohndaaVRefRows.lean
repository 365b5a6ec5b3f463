/- Words: lodestarref14.Rows: what the printed function gives. -/
import Derived.Test.YtcpaejdipohndaaVRef
import Derived.Test.YtcpaejdipohndaaPAllx5
namespace Go.Proofs.Ytcpaejdipohndaa.V
open Go.RowKit Go.Sort Go.Shelf Go.Lib Go.Maps Go.Proofs.YtcpaejdipohndaaW.PrintWords Go.Proofs.Ytcpaejdipohndaa.PAll Go.Proofs.Ytcpaejdipohndaa.R Go.Proofs.Ytcpaejdipohndaa.H
set_option linter.unusedVariables false
/-- A row put in: at the row of its id, or behind all. -/
def putRow : List Rw → Rw → List Rw
  | [], r => [r]
  | x :: o, r => if x.f0 = r.f0 then r :: o else x :: putRow o r
theorem putRow_at {r : Rw} : ∀ {o : List Rw} {a : Nat} (ha : a < o.length), (∀ q (hq : q < o.length), q < a → o[q].f0 ≠ r.f0) → o[a].f0 = r.f0 → putRow o r = o.set a r
  | x :: o, 0, _, _, h => by simp only [List.getElem_cons_zero] at h; simp [putRow, h]
  | x :: o, a + 1, ha, hn, h => by
    have h0 := hn 0 (by simp) (by omega)
    simp only [List.getElem_cons_zero] at h0
    rw [putRow, if_neg h0, List.set_cons_succ, putRow_at (by simpa using ha) (fun q hq hqa => by have := hn (q + 1) (by simpa using hq) (by omega); simpa using this) (by simpa using h)]
theorem putRow_end {r : Rw} : ∀ {o : List Rw}, (∀ q (hq : q < o.length), o[q].f0 ≠ r.f0) → putRow o r = o ++ [r]
  | [], _ => rfl
  | x :: o, h => by
    have h0 := h 0 (by simp)
    simp only [List.getElem_cons_zero] at h0
    rw [putRow, if_neg h0, putRow_end (fun q hq => by have := h (q + 1) (by simpa using hq); simpa using this)]; rfl
theorem putRow_le (r : Rw) : ∀ (o : List Rw), (putRow o r).length ≤ o.length + 1
  | [] => by simp [putRow]
  | x :: o => by
    rw [putRow]
    split
    · simp
    · have := putRow_le r o; simp; omega
def rowOf (name : ByteArray) (p : Pt) : Rw := ⟨p.f0, ((getV p.f2 name).getD ⟨0, 0, ⟨#[]⟩⟩), (getV p.f2 name).isSome⟩
def rowsL (l : List Pt) (name : ByteArray) : List Rw := l.foldl (fun o p => putRow o (rowOf name p)) []
def gT : Option Va → Int × Int × ByteArray × Bool
  | some v => (v.f0, v.f1, v.f2, true)
  | none => (0, 0, ⟨#[]⟩, false)
theorem up_get {k k' : Nat} (hk : k ≤ k') {fs : List Fi} {name : ByteArray} {r} (h : lodestarref05_Get.f k fs name = some r) : lodestarref05_Get.f k' fs name = some r := by
  induction hk with
  | refl => exact h
  | step _ ih => exact lodestarref05_Get.mono _ _ _ _ ih
theorem up_r0 {k k' : Nat} (hk : k ≤ k') {x0 x1 x5 x6 r} (h : lodestarref14_Rows.l0 k x0 x1 x5 x6 = some r) : lodestarref14_Rows.l0 k' x0 x1 x5 x6 = some r := by
  induction hk with
  | refl => exact h
  | step _ ih => exact (lodestarref14_Rows.mono_l _).1 _ _ _ _ _ ih
theorem up_r1 {k k' : Nat} (hk : k ≤ k') {x0 x1 x5 x6 x8 x9 a b c r} (h : lodestarref14_Rows.l1 k x0 x1 x5 x6 x8 x9 a b c = some r) : lodestarref14_Rows.l1 k' x0 x1 x5 x6 x8 x9 a b c = some r := by
  induction hk with
  | refl => exact h
  | step _ ih => exact (lodestarref14_Rows.mono_l _).2 _ _ _ _ _ _ _ _ _ _ ih
theorem wr_next {n : Nat} (h : n ≤ 2097152) : wrap64 ((n : Int) + 1) = ((n + 1 : Nat) : Int) := by
  unfold wrap64; omega
theorem getV_cons (x : Fi) (fs : List Fi) (name : ByteArray) : getV (x :: fs) name = if x.f0.toList = name.toList then some x.f1 else getV fs name := by
  unfold getV
  rw [List.find?_cons]
  split
  · next h => rw [if_pos (by simpa using h)]; rfl
  · next h => rw [if_neg (by simpa using h)]
theorem get_ev (fs : List Fi) (name : ByteArray) (hn : fs.length ≤ 1048576) : ∀ (d j : Nat), j + d = fs.length → ∃ k, lodestarref05_Get.l0 k fs name j = some (gT (getV (fs.drop j) name))
  | 0, j, h => ⟨1, by
    have hj : j = fs.length := by omega
    subst hj
    rw [lodestarref05_Get.l0, if_neg (by omega), List.drop_length]; rfl⟩
  | d + 1, j, h => by
    obtain ⟨k, hk⟩ := get_ev fs name hn d (j + 1) (by omega)
    refine ⟨k + 1, ?_⟩
    have hj : j < fs.length := by omega
    have er : rd_T35 fs (j : Int) = fs[j] := by unfold rd_T35; simp [hj]
    rw [lodestarref05_Get.l0, if_pos (by omega), if_pos (by omega), er, wr_next (by omega), hk, List.drop_eq_getElem_cons hj]
    rw [getV_cons]
    by_cases hq : fs[j].f0.toList = name.toList
    · rw [if_pos hq, if_pos hq]; rfl
    · rw [if_neg hq, if_neg hq]
theorem rows_ev1 (l : List Pt) (name : ByteArray) (i : Nat) (hi : i < l.length) (hn : l.length ≤ 1048576) (o : List Rw) (ho : o.length ≤ 1048576) (v : Va) (b : Bool) (r : List Rw) (k0 : Nat) (h0 : lodestarref14_Rows.l0 k0 l name (putRow o ⟨l[i].f0, v, b⟩) ((i + 1 : Nat) : Int) = some r) :
    ∀ (d a : Nat), a + d = o.length → (∀ q (hq : q < o.length), q < a → o[q].f0 ≠ l[i].f0) → ∃ k, lodestarref14_Rows.l1 k l name o i b a v.f0 v.f1 v.f2 = some r
  | 0, a, h, hp => by
    refine ⟨k0 + 1, ?_⟩
    have ha : a = o.length := by omega
    subst ha
    have ep : rd_T33 l (i : Int) = l[i] := by unfold rd_T33; simp [hi]
    rw [putRow_end (fun q hq => hp q hq hq)] at h0
    rw [lodestarref14_Rows.l1, if_neg (by omega), if_pos rfl, if_pos (by omega), Option.bind_some, if_pos (by omega), if_pos (by omega), if_pos (by omega), if_pos (by simp; omega), ep, wr_next (by omega), Int.toNat_natCast, ← h0]
    congr 1
    simp
  | d + 1, a, h, hp => by
    have ha : a < o.length := by omega
    have ep : rd_T33 l (i : Int) = l[i] := by unfold rd_T33; simp [hi]
    have eo : rd_T63 o (a : Int) = o[a] := by unfold rd_T63; simp [ha]
    by_cases hq : o[a].f0 = l[i].f0
    · refine ⟨k0 + 1, ?_⟩
      rw [putRow_at (r := ⟨l[i].f0, v, b⟩) ha hp hq] at h0
      rw [lodestarref14_Rows.l1, if_pos (by omega), if_pos (by omega), if_pos (by omega), if_pos (by omega), ep, eo, if_pos hq, if_neg (by omega), wr_next (by omega), Int.toNat_natCast, ← h0]
    · obtain ⟨k, hk⟩ := rows_ev1 l name i hi hn o ho v b r k0 h0 d (a + 1) (by omega) (fun q hq' hqa => by
        rcases Nat.lt_succ_iff_lt_or_eq.1 hqa with h1 | h1
        · exact hp q hq' h1
        · subst h1; exact hq)
      refine ⟨k + 1, ?_⟩
      rw [lodestarref14_Rows.l1, if_pos (by omega), if_pos (by omega), if_pos (by omega), if_pos (by omega), ep, eo, if_neg hq, wr_next (by omega), hk]
theorem rows_ev0 (l : List Pt) (name : ByteArray) (hn : l.length ≤ 1048576) (hf : ∀ p ∈ l, p.f2.length ≤ 1048576) : ∀ (d i : Nat) (o : List Rw), i + d = l.length → o.length ≤ i → ∃ k, lodestarref14_Rows.l0 k l name o i = some ((l.drop i).foldl (fun o p => putRow o (rowOf name p)) o)
  | 0, i, o, h, _ => ⟨1, by
    have hi : i = l.length := by omega
    subst hi
    rw [lodestarref14_Rows.l0, if_neg (by omega), List.drop_length]; rfl⟩
  | d + 1, i, o, h, ho => by
    have hi : i < l.length := by omega
    have ep : rd_T33 l (i : Int) = l[i] := by unfold rd_T33; simp [hi]
    obtain ⟨k1, h1⟩ := get_ev l[i].f2 name (hf _ (List.getElem_mem hi)) _ 0 (Nat.zero_add _)
    obtain ⟨k2, h2⟩ := rows_ev0 l name hn hf d (i + 1) (putRow o (rowOf name l[i])) (by omega) (by have := putRow_le (rowOf name l[i]) o; omega)
    obtain ⟨k3, h3⟩ := rows_ev1 l name i hi hn o (by omega) ((getV l[i].f2 name).getD ⟨0, 0, ⟨#[]⟩⟩) (getV l[i].f2 name).isSome _ k2 h2 _ 0 (Nat.zero_add _) (fun q _ h => by omega)
    refine ⟨max k1 k3 + 1, ?_⟩
    rw [lodestarref14_Rows.l0, if_pos (by omega), if_pos (by omega), ep, up_get (Nat.le_max_left k1 k3) (r := gT (getV l[i].f2 name)) (by simpa [lodestarref05_Get.f] using h1), Option.bind_some, List.drop_eq_getElem_cons hi, List.foldl_cons]
    have h4 := up_r1 (Nat.le_max_right k1 k3) h3
    cases hv : getV l[i].f2 name with
    | none => rw [hv] at h4; exact h4
    | some v => rw [hv] at h4; exact h4
theorem refRows_calls (A : Option Addr) (c : Nat) (l : List Pt) (name : ByteArray) (w : World) (hC : Kd.C k33 w A l.length l) (hc : l.length ≤ c) (hl : l.length ≤ 1048576) (hf : ∀ p ∈ l, p.f2.length ≤ 1048576) :
    Calls Try.prog 9 #[.slice A l.length c, .string name] w fun e w' => ∃ v, e = .returned v ∧ Kd.R k63 63 w' w.heap.size (fun _ => True) v (rowsL l name) ∧ Below w.heap.size w w' := by
  obtain ⟨k, hk⟩ := rows_ev0 l name hl hf _ 0 [] (Nat.zero_add _) (Nat.le_refl _)
  exact lodestarref14_Rows.calls k A c l name (rowsL l name) w hC hc hk
end Go.Proofs.Ytcpaejdipohndaa.V
