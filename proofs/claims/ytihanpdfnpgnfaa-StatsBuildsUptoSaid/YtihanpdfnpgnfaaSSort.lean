/- sort.Slice over the words of a count, by their hashes: the row holds the same entries, rising by the hash; nothing else that lay has turned. -/
import Derived.Test.YtihanpdfnpgnfaaSSorted
import Derived.Shelf.GgSortFunc.Tiny
import Derived.Shelf.SlSortFuncK.WholeK
import Derived.Deep.QuietTactic
import Derived.BigQuiet
import Derived.Test.YtihanpdfnpgnfaaPAllx0
import Derived.Test.YtihanpdfnpgnfaaWRepsOne
namespace Go.Proofs.Ytihanpdfnpgnfaa.H
open Go.RowKit Go.Sort Go.Shelf Go.Lib Go.Proofs.YtihanpdfnpgnfaaW.PrintWords
set_option linter.unusedVariables false

noncomputable def eT : TypeInfo := (Try.prog.info? 25).get (by kernel_rfl)
noncomputable def eE : TypeInfo := (Try.prog.info? 41).get (by kernel_rfl)
theorem eK (n : Nat) (h2 : 2 ≤ n) : Lib.swapperK n eE 25 = 9 := by
  have a : eE.hasPointers = false := by kernel_rfl
  have b : eE.bytes = 16 := by kernel_rfl
  have c : (n == 0) = false := by simp; omega
  have d : (n == 1) = false := by simp; omega
  simp [Lib.swapperK, a, b, c, d]

/-- An entry: how many, the hash. -/
def encE (p : Int × Int) : List Value := [.int .i64 p.1, .int .i64 p.2]
def ltE (a b : Int × Int) : Bool := decide (a.2 < b.2)
theorem swo_ltE : SWO ltE where
  irrefl := fun x => by simp [ltE]
  trans := fun x y z h1 h2 => by simp [ltE] at *; omega
  ntrans := fun x y z h1 h2 => by simp [ltE] at *; omega

set_option maxHeartbeats 2000000 in
theorem less_calls (blk off c Bs size : Nat) (W : World) (G : Nat → Int) (hs : W.cell? ⟨Bs, 2, none⟩ = some (.slice (some ⟨blk, off, none⟩) size c))
    (hc : ∀ t, t < size → W.cell? ⟨blk, off + t * 2 + 1, none⟩ = some (.int .i64 (G t))) (i j : Nat) (hi : i < size) (hj : j < size) (_hsz : size < 4611686018427387904) :
    Calls Try.prog 22 #[.int .i64 i, .int .i64 j, .pointer (some ⟨Bs, 0, none⟩)] W fun e w' => e = .returned (.bool (decide (G i < G j))) ∧ ∃ q, w' = W.drewN q := by
  have ci := hc i hi
  have cj := hc j hj
  clear hc
  go_enter Try.func22, Try.ntmps22
  go_wp2
  go_quiet (fail)
  go_wp2
  go_ret
  exact ⟨rfl, nq, rfl⟩

def flatE (E : List (Int × Int)) : List Value := E.flatMap encE
theorem flatE_len (E : List (Int × Int)) : (flatE E).length = E.length * 2 := by
  induction E with
  | nil => rfl
  | cons a r ih => simp [flatE, encE] at ih ⊢; omega
theorem flatE_get (E : List (Int × Int)) (t : Nat) (h : t < E.length * 2) : (flatE E)[t]? = (encE (E.toArray[t / 2]!))[t % 2]? := by
  induction E generalizing t with
  | nil => simp at h
  | cons a r ih =>
    match t with
    | 0 => simp [flatE, encE]
    | 1 => simp [flatE, encE]
    | t + 2 =>
      have e1 : (t + 2) / 2 = t / 2 + 1 := by omega
      have e2 : (t + 2) % 2 = t % 2 := by omega
      have := ih t (by simp at h; omega)
      rw [e1, e2]
      have e3 : (flatE (a :: r))[t + 2]? = (flatE r)[t]? := by simp [flatE, encE]
      rw [e3, this]
      have h3 : t / 2 < r.length := by simp at h; omega
      simp [h3]
theorem some_get (l : List Value) (i : Nat) (h : i < l.length) : some l[i]! = l[i]? := by simp [h]
theorem pw_short (E : List (Int × Int)) (h : ¬ 2 ≤ E.length) : E.Pairwise fun a b => a.2 ≤ b.2 := by
  match E, h with
  | [], _ => exact List.Pairwise.nil
  | [a], _ => exact List.pairwise_singleton _ _
  | a :: b :: r, h => exact absurd (by simp) h
theorem flatK_flatE (d : Array (Int × Int)) : (flatK encE 2 d).toList = flatE d.toList := by
  apply List.ext_getElem?
  intro t
  by_cases h : t < d.size * 2
  · have h1 := get_flatK encE 2 d t h
    have h2 : t < (flatK encE 2 d).size := by simpa using h
    rw [getElem!_pos _ t h2] at h1
    rw [Array.getElem?_toList, Array.getElem?_eq_getElem h2, h1, flatE_get _ _ (by simpa using h)]
    have h3 : t % 2 < (encE d[t / 2]!).length := by simp [encE]; omega
    rw [← some_get _ _ h3]
  · rw [List.getElem?_eq_none (by simp; omega), List.getElem?_eq_none (by rw [flatE_len]; simp; omega)]

theorem own_putF {w : World} {base g cap q : Nat} {e : TypeId} {os : Array Obj} {cur : Array Value} (F : Array Value) (n size : Nat) (hF : F.size = n * size) (hbase : base ≤ g) (hb : w.heap[g]? = some (.cells cur e (0, 0)))
    (hn : n ≤ cap) (h2 : cap ≤ maxLen) (h3 : cur.size = cap * size) :
    (grow (putRow id (Sort.ahead w q) g 0 F) os).ownsRow base e size (.slice (some ⟨g, 0, none⟩) n cap) n F.toList := by
  refine ⟨by simpa using hF, .inr ⟨g, cap, putCells id 0 F cur, rfl, hbase, ?_, hn, h2, by simp [putCells, h3], ?_⟩⟩
  · have hg : g < w.heap.size := (Array.getElem?_eq_some_iff.1 hb).1
    rw [heap_grow_old _ _ (by simpa using hg)]
    simp [putRow, mapBlock, Sort.ahead, Array.getElem?_modify, hb, onCells]
  · have hle : n * size ≤ cap * size := Nat.mul_le_mul_right _ hn
    apply List.ext_getElem?
    intro j
    by_cases hj : j < n * size
    · rw [List.getElem?_take_of_lt hj, Array.getElem?_toList, Array.getElem?_toList]
      have h4 : j < F.size := by omega
      have h5 : j < cur.size := by omega
      simp [putCells, h4, h5]
    · rw [List.getElem?_take_eq_none (by omega), List.getElem?_eq_none (by simp; omega)]

theorem grownBy_putF {w : World} {g q : Nat} {os : Array Obj} (d : Array Value) : w.grownBy (grow (putRow id (Sort.ahead w q) g 0 d) os) (some g) := grownBy_put id d

theorem perm_of_permIn (d d' : Array (Int × Int)) (hp : PermIn 0 d.size d d') : d'.toList.Perm d.toList := by
  obtain ⟨h1, _, h3⟩ := hp
  have e1 : d.extract 0 d.size = d := by simp
  have e2 : d'.extract 0 d.size = d' := by rw [← h1]; simp
  rwa [e1, e2] at h3
theorem sorted_of_sortedIn (d : Array (Int × Int)) (hs : SortedIn ltE 0 d.size d) : d.toList.Pairwise fun a b => a.2 ≤ b.2 := by
  rw [List.pairwise_iff_getElem]
  intro i j hi hj hij
  have := hs i j (Nat.zero_le _) hij (by simpa using hj)
  simp only [Array.length_toList] at hi hj
  rw [getElem!_pos d i hi, getElem!_pos d j hj] at this
  simp [ltE] at this
  simpa using this

set_option maxHeartbeats 2000000 in
theorem sortE_calls {base g7 cnt : Nat} {bv v : Value} {E : List (Int × Int)} {w : World} (hS : w.heap[g7]? = some (.cells #[.int .i64 cnt, bv, v] 27 (0, 0)))
    (ho : w.ownsRow base 41 2 v E.length (flatE E)) (hz : E.length < 4611686018427387904) :
    Calls Try.prog 21 #[.iface 25 v, .func (.func 22) #[] #[.pointer (some ⟨g7, 0, none⟩)]] w fun e w' => e = .returned (.tuple #[]) ∧
      ∃ E', E'.Perm E ∧ E'.Pairwise (fun a b => a.2 ≤ b.2) ∧ w'.ownsRow base 41 2 v E.length (flatE E') ∧ w.grownBy w' v.ownBlock := by
  by_cases h2 : 2 ≤ E.length
  · rcases ho.2 with ⟨rfl, hn⟩ | ⟨g, cap, cur, rfl, hg, hh, hn, hc, hs, ht⟩
    · omega
    · have hblk : g < w.heap.size := (Array.getElem?_eq_some_iff.1 hh).1
      have hne : g7 ≠ g := by
        rintro rfl
        rw [hS] at hh
        injection hh with hh
        injection hh with _ hh
        revert hh
        decide
      have hlt7 : g7 < w.heap.size := (Array.getElem?_eq_some_iff.1 hS).1
      have hH : HoldsK encE 2 w g 0 E.toArray := by
        intro j hj
        have hj' : j < E.length * 2 := by simpa using hj
        refine ⟨?_, by simp [World.frozen?, hh]⟩
        have h1 : (cur.toList.take (E.length * 2))[j]? = (flatE E)[j]? := by rw [ht]
        rw [List.getElem?_take_of_lt hj', Array.getElem?_toList] at h1
        simp only [World.cell?, hh, Nat.zero_add]
        have h3 : (flatK encE 2 E.toArray).toList[j]? = (flatE E)[j]? := by rw [flatK_flatE]
        rw [Array.getElem?_toList] at h3
        have h4 : j < (flatK encE 2 E.toArray).size := by simpa using hj'
        rw [getElem!_pos _ j h4, ← Option.some_inj.2 (rfl : id (flatK encE 2 E.toArray)[j] = (flatK encE 2 E.toArray)[j])]
        rw [h1, ← h3, Array.getElem?_eq_getElem h4]
        simp
      have hcS : w.cell? ⟨g7, 2, none⟩ = some (.slice (some ⟨g, 0, none⟩) E.length cap) := by simp [World.cell?, hS]
      have hless : LessReadsK Try.prog 22 #[.pointer (some ⟨g7, 0, none⟩)] encE 2 ltE g 0 E.toArray.size w := by
        intro m os dk hsz i j hi hj
        have e : sortWorldK encE 2 w g 0 m dk os = putRowK encE 2 (grow (Sort.ahead w m) os) g 0 dk := by
          unfold sortWorldK; rw [putRowK_grow _ _ (Sort.ahead w m) _ g 0 _ hblk]
        have hHg : HoldsK encE 2 (grow (Sort.ahead w m) os) g 0 E.toArray := holdsK_grow _ _ _ _ g 0 _ hblk (holdsK_ahead _ _ _ _ _ _ _ hH)
        have hr := less_calls g 0 cap g7 E.toArray.size (sortWorldK encE 2 w g 0 m dk os) (fun t => dk[t]!.2) ?_ (fun t ht => ?_) i j hi hj (by simpa using hz)
        · exact hr
        · rw [e, cell?_putRowK_other _ _ _ g 0 dk _ hne, cell?_grow _ _ _ hlt7]
          simpa using hcS
        · rw [e]; exact ((holdsK_putRowK _ _ _ g 0 E.toArray dk hHg hsz).cell (i := t) (c := 1) (by omega) (by omega)).1
      have hS' := Any.sort_Slice_cells_sorted Try.laysGg6 25 41 eT eE (by kernel_rfl) (by kernel_rfl) (by kernel_rfl) (by kernel_rfl) 25 (fun _ => by kernel_rfl) encE 2 (fun _ => rfl) (by kernel_rfl) (fun _ => by kernel_rfl)
        (fun x v hv => by simp [encE] at hv; rcases hv with rfl | rfl <;> rfl) ltE swo_ltE 22 _
        (enters_of Try.func22 (by kernel_rfl) rfl) g 0 cap E.toArray (by simpa using h2) (by simpa using hz) 50 (by rw [List.size_toArray, eK _ h2]; kernel_rfl) false
        (fun args W => run_callFunc_extern Try.func50 (by kernel_rfl) (by kernel_rfl) (by kernel_rfl) (e := Extern.ReflectliteSwapper.swap false) (by kernel_rfl) args W) _ hless hH hblk
      change Calls Try.prog 21 _ _ _ at hS'
      rw [List.size_toArray] at hS'
      refine hS'.mono ?_
      rintro e w' ⟨rfl, d', n, os, hP, hSo, rfl⟩
      have hsz : d'.size = E.length := by have := hP.1; simpa using this
      rw [← (show E.toArray.size = E.length by simp)] at hP
      refine ⟨rfl, d'.toList, by simpa using perm_of_permIn _ _ hP, sorted_of_sortedIn d' (by rw [hsz]; exact hSo), ?_, grownBy_putF _⟩
      have := own_putF (w := w) (base := base) (g := g) (cap := cap) (q := n) (os := os) (cur := cur) (e := 41) (flatK encE 2 d') E.length 2 (by rw [size_flatK, hsz]) hg hh hn hc hs
      rw [flatK_flatE] at this
      exact this
  · obtain ⟨A, c, rfl⟩ : ∃ A c, v = .slice A E.length c := by
      rcases ho.2 with ⟨rfl, hn⟩ | ⟨g, cap, cur, rfl, hg, hh, hn, hc, hs, ht⟩
      · exact ⟨none, 0, by rw [hn]⟩
      · exact ⟨_, cap, rfl⟩
    have hT := fun f hf => Any.sort_Slice_tiny Try.laysGg6 25 41 eT eE (by kernel_rfl) (by kernel_rfl) (by kernel_rfl) (by kernel_rfl) 25 (fun _ => by kernel_rfl) A E.length c (by omega)
      f hf (.func 22) #[] #[.pointer (some ⟨g7, 0, none⟩)] w
    have hT2 : Calls Try.prog 21 #[.iface 25 (.slice A E.length c), .func (.func 22) #[] #[.pointer (some ⟨g7, 0, none⟩)]] w fun e w' => e = .returned (.tuple #[]) ∧ ∃ os, w' = grow w os := by
      by_cases h0 : E.length = 0
      · exact hT 42 (by rw [h0]; kernel_rfl)
      · exact hT 43 (by rw [show E.length = 1 by omega]; kernel_rfl)
    refine hT2.mono ?_
    rintro e w' ⟨rfl, os, rfl⟩
    have hgr : w.grownBy (grow w os) (Value.slice A E.length c).ownBlock := ⟨rfl, rfl, rfl, by simp, fun k hk _ => heap_grow_old _ _ hk⟩
    exact ⟨rfl, E, List.Perm.refl _, pw_short E h2, own_move ho (fun k hk => heap_grow_old _ _ (ho.lt k hk).2), hgr⟩
end Go.Proofs.Ytihanpdfnpgnfaa.H
