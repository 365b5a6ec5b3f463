/- Words: rows of values in memory, ahead of a sort and behind it; the method Values. Words: the method Values: the values that some point has, each once, rising; in new memory. Words: the walk of the method Values. Words: law14.sure: what must come whatever the input is. Words: the laws' own small functions: same lists of ids, a word, a point of a city. Words: a point of a city, as the law makes it. Words: same lists of values. Words: same lists of values. Words: law14.sure walked: it answers true. -/
import Derived.Test.YtcpaejdipohndaaVSo
import Derived.Test.YtcpaejdipohndaaWRepsOne
import Derived.Test.YtcpaejdipohndaaVSp
namespace Go.Proofs.Ytcpaejdipohndaa.V
open Go.RowKit Go.Sort Go.Shelf Go.Lib Go.Maps Go.Proofs.YtcpaejdipohndaaW.PrintWords Go.Proofs.Ytcpaejdipohndaa.PAll
set_option linter.unusedVariables false
abbrev kV := k24
def flatV (E : List Va) : List Value := E.flatMap encV
theorem flatV_len (E : List Va) : (flatV E).length = E.length * 3 := by
  induction E with
  | nil => rfl
  | cons a r ih => simp [flatV, encV] at ih ⊢; omega
theorem flatV_get (E : List Va) (t : Nat) (h : t < E.length * 3) : (flatV E)[t]? = (encV (E.toArray[t / 3]!))[t % 3]? := by
  induction E generalizing t with
  | nil => simp at h
  | cons a r ih =>
    match t with
    | 0 => simp [flatV, encV]
    | 1 => simp [flatV, encV]
    | 2 => simp [flatV, encV]
    | t + 3 =>
      have e1 : (t + 3) / 3 = t / 3 + 1 := by omega
      have e2 : (t + 3) % 3 = t % 3 := by omega
      have := ih t (by simp at h; omega)
      rw [e1, e2]
      have e3 : (flatV (a :: r))[t + 3]? = (flatV r)[t]? := by simp [flatV, encV]
      rw [e3, this]
      have h3 : t / 3 < r.length := by simp at h; omega
      simp [h3]
theorem some_getV (l : List Value) (i : Nat) (h : i < l.length) : some l[i]! = l[i]? := by simp [h]
theorem flatK_flatV (d : Array Va) : (flatK encV 3 d).toList = flatV d.toList := by
  apply List.ext_getElem?
  intro t
  by_cases h : t < d.size * 3
  · have h1 := get_flatK encV 3 d t h
    have h2 : t < (flatK encV 3 d).size := by simpa using h
    rw [getElem!_pos _ t h2] at h1
    rw [Array.getElem?_toList, Array.getElem?_eq_getElem h2, h1, flatV_get _ _ (by simpa using h)]
    have h3 : t % 3 < (encV d[t / 3]!).length := by simp [encV]; omega
    rw [← some_getV _ _ h3]
  · rw [List.getElem?_eq_none (by simp; omega), List.getElem?_eq_none (by rw [flatV_len]; simp; omega)]
def RowVa (W : World) (base : Nat) (v : Value) (E : List Va) : Prop := Kd.R kV 24 W base (fun _ => True) v E
theorem RowVa.own {base : Nat} {W : World} {v : Value} {E : List Va} (h : RowVa W base v E) : W.ownsRow base 24 3 v E.length (flatV E) := by
  obtain ⟨_, inner, ho, hr⟩ := h
  have : inner = flatV E := by
    clear ho
    apply List.ext_getElem?
    intro j
    have hl : inner.length = E.length * 3 := hr.1
    by_cases hj : j < E.length * 3
    · have h2 : j / 3 < E.length := by omega
      have h3 := hr.2 (j / 3) E[j / 3] (List.getElem?_eq_getElem h2)
      have h4 := k24_openM h3
      rw [flatV_get _ _ (by simpa using hj)]
      have h5 : ((inner.drop (j / 3 * kV.sz)).take kV.sz)[j % 3]? = inner[j]? := by
        have e2 : kV.sz = 3 := rfl
        rw [e2, List.getElem?_take_of_lt (by omega), List.getElem?_drop]
        congr 1
        omega
      rw [← h5, h4]
      have h6 : E.toArray[j / 3]! = E[j / 3] := by simp [h2]
      rw [h6]
      rfl
    · rw [List.getElem?_eq_none (by omega), List.getElem?_eq_none (by rw [flatV_len]; omega)]
  subst this
  exact ho
theorem RowVa.of {base : Nat} {W : World} {v : Value} {E : List Va} (h : W.ownsRow base 24 3 v E.length (flatV E)) : RowVa W base v E := by
  refine ⟨fun _ _ => trivial, flatV E, h, ?_⟩
  clear h
  induction E with
  | nil => exact Reps.none _ _
  | cons a r ih => exact Reps.front (c := encV a) (k24_mkM _ _ _ a) rfl ih (by simp [flatV])
theorem RowVa.holds {base : Nat} {W : World} {g cap : Nat} {E : List Va} (h : RowVa W base (.slice (some ⟨g, 0, none⟩) E.length cap) E) : HoldsK encV 3 W g 0 E.toArray ∧ g < W.heap.size ∧ ∃ cur, W.heap[g]? = some (.cells cur 24 (0, 0)) := by
  rcases h.own.2 with ⟨e, _⟩ | ⟨g', cap', cur, e, hg, hh, hn, hc, hs, ht⟩
  · cases e
  · cases e
    refine ⟨fun j hj => ?_, (Array.getElem?_eq_some_iff.1 hh).1, cur, hh⟩
    have hj' : j < E.length * 3 := by simpa using hj
    refine ⟨?_, by simp [World.frozen?, hh]⟩
    have h1 : (cur.toList.take (E.length * 3))[j]? = (flatV E)[j]? := by rw [ht]
    rw [List.getElem?_take_of_lt hj', Array.getElem?_toList] at h1
    simp only [World.cell?, hh, Nat.zero_add]
    have h3 : (flatK encV 3 E.toArray).toList[j]? = (flatV E)[j]? := by rw [flatK_flatV]
    rw [Array.getElem?_toList] at h3
    have h4 : j < (flatK encV 3 E.toArray).size := by simpa using hj'
    rw [getElem!_pos _ j h4, ← Option.some_inj.2 (rfl : id (flatK encV 3 E.toArray)[j] = (flatK encV 3 E.toArray)[j])]
    rw [h1, ← h3, Array.getElem?_eq_getElem h4]
    simp
theorem RowVa.sorted {base : Nat} {w W : World} {g cap : Nat} {E : List Va} {d' : Array Va} (h : RowVa w base (.slice (some ⟨g, 0, none⟩) E.length cap) E) (hst : StV w g d' W) (hs : d'.size = E.length) : RowVa W base (.slice (some ⟨g, 0, none⟩) E.length cap) d'.toList := by
  rcases h.own.2 with ⟨e, _⟩ | ⟨g', cap', cur, e, hg, hh, hn, hc, hsz, ht⟩
  · cases e
  · cases e
    obtain ⟨cur', h1, h2⟩ := hst.2.2 _ _ _ hh
    have hl : d'.toList.length = E.length := by simpa using hs
    apply RowVa.of
    rw [hl]
    refine ⟨by rw [flatV_len, hl], .inr ⟨g, cap, cur', rfl, hg, h1, hn, hc, by rw [h2, hsz], ?_⟩⟩
    apply List.ext_getElem?
    intro j
    by_cases hj : j < E.length * 3
    · rw [List.getElem?_take_of_lt hj, Array.getElem?_toList, ← flatK_flatV, Array.getElem?_toList]
      have h4 : j < (flatK encV 3 d').size := by simp; omega
      have := (hst.2.1 j h4).1
      simp only [World.cell?, h1, Nat.zero_add] at this
      rw [Array.getElem?_eq_getElem h4]
      rw [getElem!_pos _ j h4] at this
      simpa using this
    · rw [List.getElem?_eq_none (by rw [List.length_take]; omega), List.getElem?_eq_none (by rw [flatV_len]; simp; omega)]
/-- The values that some point has, each once, rising. -/
def IsVals (l : List Pt) (name : ByteArray) (E : List Va) : Prop := E.Pairwise (fun a b => ltV a b = true) ∧ ∀ v, v ∈ E ↔ (GoodV v ∧ findL l name v ≠ [])
structure Got (f : Lit → Option Value) (left : Lit → Bool) (E : List Va) : Prop where
  g : ∀ v ∈ E, GoodV v
  m : ∀ v, GoodV v → (v ∈ E ↔ ((f (klv v)).isSome = true ∧ left (klv v) = false))
  n : E.Nodup
theorem Got.start {f : Lit → Option Value} {left : Lit → Bool} (h : ∀ kl, left kl = (f kl).isSome) : Got f left [] := ⟨fun v h => by simp at h, fun v _ => by rw [h]; cases (f (klv v)).isSome <;> simp, List.nodup_nil⟩
theorem Got.step {f : Lit → Option Value} {left : Lit → Bool} {E : List Va} (h : Got f left E) {x : Va} (hx : GoodV x) {u : Value} (hf : f (klv x) = some u) (hl : left (klv x) = true) : Got f (fun y => left y && !y.sameKey (klv x)) (E ++ [x]) := by
  have hn : x ∉ E := fun hm => by have := ((h.m x hx).1 hm).2; rw [hl] at this; cases this
  refine ⟨fun v hv => ?_, fun v hv => ?_, ?_⟩
  · rcases List.mem_append.1 hv with hv | hv
    · exact h.g v hv
    · rw [List.mem_singleton] at hv; subst hv; exact hx
  · rw [List.mem_append, List.mem_singleton, h.m v hv]
    by_cases e : v = x
    · subst e
      simp [hf, WideAt.sameKey_self (keyedV.key (keyV hv))]
    · have : (klv v).sameKey (klv x) = false := by
        cases h' : (klv v).sameKey (klv x) with
        | false => rfl
        | true => exact absurd (klv_inj hv hx (WideAt.sameKey_eq h')) e
      simp [e, this]
  · rw [List.nodup_append]
    exact ⟨h.n, by simp, fun a ha b hb => by rw [List.mem_singleton] at hb; subst hb; intro e; subst e; exact hn ha⟩
theorem nodup_le' {α : Type} [DecidableEq α] : ∀ (l hs : List α), l.Nodup → (∀ x ∈ l, x ∈ hs) → l.length ≤ hs.length := by
  intro l
  induction l with
  | nil => intro hs _ _; simp
  | cons a r ih =>
    intro hs hn hm
    rw [List.nodup_cons] at hn
    have ha := hm a (by simp)
    have := ih (hs.erase a) hn.2 (fun x hx => (List.mem_erase_of_ne (fun e => hn.1 (by rw [← e]; exact hx))).2 (hm x (by simp [hx])))
    rw [List.length_erase_of_mem ha] at this
    have : 0 < hs.length := List.length_pos_of_mem ha
    simp
    omega
theorem findL_ne {l : List Pt} {name : ByteArray} {v : Va} (h : findL l name v ≠ []) : ∃ p ∈ l, valOf l name p.f0 = some v := by
  cases hh : findL l name v with
  | nil => exact absurd hh h
  | cons a r =>
    have ha : a ∈ findL l name v := by rw [hh]; simp
    unfold findL at ha
    rw [mem_unionL, List.mem_filter] at ha
    obtain ⟨p, hp, rfl⟩ := List.mem_map.1 ha.1
    exact ⟨p, hp, by simpa using ha.2⟩
theorem vals_le {l : List Pt} {name : ByteArray} {E : List Va} (hn : E.Nodup) (h : ∀ v ∈ E, findL l name v ≠ []) : E.length ≤ l.length := by
  have := nodup_le' (E.map some) (l.map fun p => valOf l name p.f0) (by
    refine (List.pairwise_map.2 (hn.imp ?_))
    intro a b hab e
    exact hab (Option.some.inj e)) (fun x hx => by
    obtain ⟨v, hv, rfl⟩ := List.mem_map.1 hx
    obtain ⟨p, hp, e⟩ := findL_ne (h v hv)
    exact List.mem_map.2 ⟨p, hp, e⟩)
  simpa using this
end Go.Proofs.Ytcpaejdipohndaa.V
namespace Go.Proofs.Ytcpaejdipohndaa.V
open Go.RowKit Go.Sort Go.Shelf Go.Lib Go.Maps Go.Proofs.YtcpaejdipohndaaW.PrintWords Go.Proofs.Ytcpaejdipohndaa.PAll
set_option linter.unusedVariables false
theorem infoV : (Try.prog.info? 24).map (fun i => (i.zero, i.size, i.bytes)) = some (some (.agg #[.int .i64 0, .int .i64 0, .string ⟨#[]⟩]), 3, 32) := by kernel_rfl
theorem permV (d d' : Array Va) (hp : PermIn 0 d.size d d') : d'.toList.Perm d.toList := by
  obtain ⟨h1, _, h3⟩ := hp
  have e1 : d.extract 0 d.size = d := by simp
  have e2 : d'.extract 0 d.size = d' := by rw [← h1]; simp
  rwa [e1, e2] at h3
theorem sortedV (d : Array Va) (hs : SortedIn ltV 0 d.size d) : d.toList.Pairwise fun a b => ltV b a = false := by
  rw [List.pairwise_iff_getElem]
  intro i j hi hj hij
  have := hs i j (Nat.zero_le _) hij (by simpa using hj)
  simp only [Array.length_toList] at hi hj
  rw [getElem!_pos d i hi, getElem!_pos d j hj] at this
  simpa using this
theorem shortV (E : List Va) (h : ¬ 2 ≤ E.length) : E.Pairwise fun a b => ltV b a = false := by
  match E, h with
  | [], _ => exact List.Pairwise.nil
  | [a], _ => exact List.pairwise_singleton _ _
  | a :: b :: r, h => exact absurd (by simp) h
set_option maxHeartbeats 2000000 in
theorem sort_row {W : World} {base B : Nat} {A : Option Addr} {cp : Nat} {E : List Va} (hS : 2 ≤ E.length → SortsTo E.length) (hB : W.heap[B]? = some (.cells #[.slice A E.length cp] 43 (0, 0))) (hRE : RowVa W base (.slice A E.length cp) E) :
    Calls Try.prog 29 #[.iface 43 (.slice A E.length cp), .func (.func 30) #[] #[.pointer (some ⟨B, 0, none⟩)]] W fun e w' => e = .returned (.tuple #[]) ∧
      ∃ E', E'.Perm E ∧ E'.Pairwise (fun a b => ltV b a = false) ∧ RowVa w' base (.slice A E.length cp) E' ∧ W.grownBy w' (Value.slice A E.length cp).ownBlock := by
  by_cases h2 : 2 ≤ E.length
  · obtain ⟨g, cap, e, -, -, -⟩ := Kd.R_form hRE (by omega)
    cases e
    obtain ⟨hH, hlt, cur, hcur⟩ := hRE.holds
    have hne : B ≠ g := by
      rintro rfl
      rw [hcur] at hB
      injection hB with hB
      injection hB with _ hB
      exact absurd hB (by decide)
    refine (hS h2 W B g cp E.toArray hB hne hH hlt (by simp)).mono ?_
    rintro e w' ⟨rfl, d', hP, hSo, hst⟩
    have hsz : d'.size = E.length := by have := hP.1; simpa using this
    refine ⟨rfl, d'.toList, by simpa using permV E.toArray d' (by simpa using hP), sortedV d' (by rw [hsz]; exact hSo), hRE.sorted hst hsz, hst.1⟩
  · have hT := fun f hf => Any.sort_Slice_tiny Try.laysGg6 43 24 eTV eEV (by kernel_rfl) (by kernel_rfl) (by kernel_rfl) (by kernel_rfl) 25 (fun _ => by kernel_rfl) A E.length cp (by omega)
      f hf (.func 30) #[] #[.pointer (some ⟨B, 0, none⟩)] W
    have hT2 : Calls Try.prog 29 #[.iface 43 (.slice A E.length cp), .func (.func 30) #[] #[.pointer (some ⟨B, 0, none⟩)]] W fun e w' => e = .returned (.tuple #[]) ∧ ∃ os, w' = grow W os := by
      by_cases h0 : E.length = 0
      · exact hT 47 (by rw [h0]; kernel_rfl)
      · exact hT 48 (by rw [show E.length = 1 by omega]; kernel_rfl)
    refine hT2.mono ?_
    rintro e w' ⟨rfl, os, rfl⟩
    have hb : Below W.heap.size W (grow W os) := ⟨rfl, rfl, rfl, by simp, fun k hk => heap_grow_old _ _ hk⟩
    exact ⟨rfl, E, List.Perm.refl _, shortV E h2, Kd.R_below hRE hb, grown_bel hb⟩
theorem listTri (x y : List UInt8) (h1 : ¬ x < y) (h2 : ¬ y < x) : x = y := List.le_antisymm (List.not_lt.1 h2) (List.not_lt.1 h1)
theorem ltV_total {a b : Va} (ha : a ≠ b) (h : ltV b a = false) : ltV a b = true := by
  cases h1 : ltV a b with
  | true => rfl
  | false =>
    exfalso
    have n1 : ¬ (a.f0 < b.f0 ∨ (a.f0 = b.f0 ∧ (a.f1 < b.f1 ∨ (a.f1 = b.f1 ∧ a.f2.toList < b.f2.toList)))) := fun e => by rw [← ltV_iff, h1] at e; cases e
    have n2 : ¬ (b.f0 < a.f0 ∨ (b.f0 = a.f0 ∧ (b.f1 < a.f1 ∨ (b.f1 = a.f1 ∧ b.f2.toList < a.f2.toList)))) := fun e => by rw [← ltV_iff, h] at e; cases e
    rw [not_or, not_and, not_or, not_and] at n1 n2
    obtain ⟨a1, a2⟩ := n1
    obtain ⟨b1, b2⟩ := n2
    have e0 : a.f0 = b.f0 := by omega
    obtain ⟨a3, a4⟩ := a2 e0
    obtain ⟨b3, b4⟩ := b2 e0.symm
    have e1 : a.f1 = b.f1 := by omega
    have e2 := listTri _ _ (a4 e1) (b4 e1.symm)
    have e3 : a.f2 = b.f2 := by
      have : a.f2.data = b.f2.data := by
        rw [ByteArray.toList_eq, ByteArray.toList_eq] at e2
        exact Array.toList_inj.1 e2
      cases ha2 : a.f2; cases hb2 : b.f2; rw [ha2, hb2] at this; cases this; rfl
    apply ha
    cases a; cases b
    simp only at e0 e1 e3
    subst e0 e1 e3
    rfl
end Go.Proofs.Ytcpaejdipohndaa.V
namespace Go.Proofs.Ytcpaejdipohndaa.V
open Go.RowKit Go.Sort Go.Shelf Go.Lib Go.Maps Go.Proofs.YtcpaejdipohndaaW.PrintWords Go.Proofs.Ytcpaejdipohndaa.PAll
set_option linter.unusedVariables false
theorem isVals {W : World} {base : Nat} {l : List Pt} {name : ByteArray} {f : Lit → Option Value} {av : Value} {LA : List Int} (hR : Rows W base f (findL l name) av LA) {left : Lit → Bool} {E E' : List Va} (hG : Got f left E) (h0 : ∀ kl, left kl = false) (hp : E'.Perm E) (hs : E'.Pairwise fun a b => ltV b a = false) : IsVals l name E' := by
  have hm : ∀ v, v ∈ E ↔ (GoodV v ∧ findL l name v ≠ []) := fun v => by
    constructor
    · intro hv
      have hg := hG.g v hv
      refine ⟨hg, fun e => ?_⟩
      have := ((hG.m v hg).1 hv).1
      rw [hR.no v hg e] at this
      cases this
    · rintro ⟨hg, hne⟩
      obtain ⟨u, hu, _⟩ := hR.yes v hg hne
      exact (hG.m v hg).2 ⟨by rw [hu]; rfl, h0 _⟩
  refine ⟨?_, fun v => by rw [hp.mem_iff, hm]⟩
  have hn : E'.Nodup := hp.nodup_iff.2 hG.n
  exact (hs.and hn).imp (fun h => ltV_total h.2 h.1)
theorem got_le {W : World} {base : Nat} {l : List Pt} {name : ByteArray} {f : Lit → Option Value} {av : Value} {LA : List Int} (hR : Rows W base f (findL l name) av LA) {left : Lit → Bool} {E : List Va} (hG : Got f left E) : E.length ≤ l.length :=
  vals_le hG.n (fun v hv e => by
    have hg := hG.g v hv
    have := ((hG.m v hg).1 hv).1
    rw [hR.no v hg e] at this
    cases this)
set_option maxRecDepth 100000 in
set_option maxHeartbeats 2000000 in
theorem values_calls {l : List Pt} {name : ByteArray} {base : Nat} {w : World} {x : Value} (h : WIdx l name base w x) (hn : l.length ≤ 1048576) (hS : ∀ n, 2 ≤ n → n ≤ l.length → SortsTo n) :
    Calls Try.prog 16 #[x] w fun e w' => ∃ u E, e = .returned u ∧ RowVa w' w.heap.size u E ∧ IsVals l name E ∧ Below w.heap.size w w' := by
  obtain ⟨bx, bp, m, av, f, rfl, hX, hlx, hlp, hm, hM, hR⟩ := h
  have hb1 : Below w.heap.size w (w.alloc (.cells #[.slice none 0 0] 43)) := (Below.refl _ w).alloc (Nat.le_refl _) _
  have hX1 := (hb1.block _ (Array.getElem?_eq_some_iff.1 hX).1).trans hX
  have k0 : (w.alloc (.cells #[.slice none 0 0] 43)).cell? ⟨bx, 0, none⟩ = some (.map (some bp)) := by simp [World.cell?, hX1]
  obtain ⟨w2, left0, cnt0, hrun, hG0, hl0, hg0, hs0⟩ := (hM.below hb1).range keyedV Try.underlying56
  have hz1 : (w.alloc (.cells #[.slice none 0 0] 43)).heap.size = w.heap.size + 1 := by simp
  have hB0 : w2.heap[w.heap.size]? = some (.cells #[.slice none 0 0] 43 (0, 0)) := (hg0.block _ (by rw [hz1]; omega) (by simp)).trans (World.alloc_heap_new w _)
  have hBe0 := below_grown hb1 hg0 (by simp)
  rw [hz1] at hG0
  have HR := Lib.hid hR
  have HL0 := Lib.hid hl0
  have HS := Lib.hid hS
  clear hR hl0 hS hb1 hX1 hg0 hs0 hM hz1
  go_enter Try.func16, Try.ntmps16
  go_wp2_with fail
  try go_frame
  clear hrun k0
  generalize hr : w.heap.size + 1 = r at *
  go_loopw [12] (fun _ W => ∃ (left : Lit → Bool) (cnt : Nat) (E : List Va) (vv : Value), GoF Try.prog 24 W bp r m f left cnt ∧ W.heap[w.heap.size]? = some (.cells #[vv] 43 (0, 0)) ∧ RowVa W w.heap.size vv E ∧ Got f left E ∧ Below w.heap.size w W) (fun _ W => W.rangeLeft bp r)
  case atStart => exact ⟨left0, cnt0, [], .slice none 0 0, hG0, hB0, Kd.R_nil _ _ _ _ _, Got.start HL0.out, hBe0⟩
  case round =>
    clear hG0 hB0 hBe0
    obtain ⟨left, cnt, E, vv, hG, hB, hRE, hGot, hBe⟩ := hrel
    have hlen := got_le HR.out hGot
    rcases hG.next keyedV 0 with ⟨h0', hl0', hrun⟩ | ⟨key, u, kl, w1, cnt1, hkey, hlk, hfv, hrun, hG1, hlt1, hg1, hs1, hen⟩
    · obtain ⟨A, cp, rfl⟩ := Kd.R_slice hRE
      have CS := sort_row (fun h2 => HS.out _ h2 hlen) hB hRE
      have c0 : wr.cell? ⟨w.heap.size, 0, none⟩ = some (.slice A E.length cp) := by simp [World.cell?, hB]
      have HT := Lib.hid (fun E' hp hs => isVals (E' := E') HR.out hGot hl0' hp hs)
      have hne : some w.heap.size ≠ (Value.slice A E.length cp).ownBlock := fun e => by
        obtain ⟨cells, hc⟩ := Kd.R_typed hRE _ e.symm
        rw [hc] at hB
        injection hB with hB
        injection hB with _ hB
        exact absurd hB (by decide)
      have hlo : ∀ k, (Value.slice A E.length cp).ownBlock = some k → w.heap.size ≤ k := Kd.R_base hRE
      have HB := Lib.hid hB
      clear hG hGot hB hRE
      go_wp2_with fail
      refine CS.mono ?_
      rintro e w3 ⟨rfl, E', hP, hSo, hR3, hg3⟩
      have hB3 := (hg3.block _ (Array.getElem?_eq_some_iff.1 HB.out).1 hne).trans HB.out
      have c3 : w3.cell? ⟨w.heap.size, 0, none⟩ = some (.slice A E.length cp) := by simp [World.cell?, hB3]
      have HV := Lib.hid (HT.out E' hP hSo)
      have HBe := Lib.hid (below_grown hBe hg3 hlo)
      have HR3 := Lib.hid hR3
      clear CS HT hP hSo hR3 hg3 hB3 hBe
      go_wp2_with fail
      go_ret
      exact ⟨_, E', rfl, HR3.out, HV.out, HBe.out⟩
    · obtain ⟨x, hx, rfl, hnx, hrow⟩ := HR.out.at_ hfv
      obtain rfl : key = .agg #[.int .i64 x.f0, .int .i64 x.f1, .string x.f2] := keyedV.inj hkey (keyV hx)
      have hme : wr.rangeLeft bp r = cnt := hG.left_eq
      obtain ⟨o, ho, ho1, ho2⟩ := hG.obj
      have hB1 := (hg1.block _ (Array.getElem?_eq_some_iff.1 hB).1 (obj_ne hB ho (fun e => ho1 _ _ _ e.symm))).trans hB
      have hRE1 : RowVa w1 w.heap.size vv E := Kd.R_grown2 hRE rfl hg1 (fun k e he => by
        obtain ⟨cells, hc⟩ := Kd.R_typed hRE k he.symm
        injection e with e
        subst e
        rw [hc] at ho
        injection ho with ho
        exact ho1 _ _ _ ho.symm)
      have hBe1 := below_grown hBe hg1 (fun k e => by injection e with e; omega)
      have hb3 : Below w1.heap.size w1 (w1.alloc (.cells #[.int .i64 x.f0, .int .i64 x.f1, .string x.f2] 24)) := (Below.refl _ w1).alloc (Nat.le_refl _) _
      have hV3 := World.alloc_heap_new w1 (.cells #[.int .i64 x.f0, .int .i64 x.f1, .string x.f2] 24)
      have hB3 := (hb3.block _ (Array.getElem?_eq_some_iff.1 hB1).1).trans hB1
      have hRE3 : RowVa (w1.alloc (.cells #[.int .i64 x.f0, .int .i64 x.f1, .string x.f2] 24)) w.heap.size vv E := Kd.R_below hRE1 hb3
      have hG3 := hG1.below hb3
      have hBe3 := hBe1.trans (hb3.mono hBe1.size)
      have HG3 := Lib.hid hG3
      have HGot := Lib.hid (hGot.step hx hfv hlk)
      have Hlt := Lib.hid hlt1
      have HB3 := Lib.hid hB3
      have hz3 := hBe3.size
      clear hG hG1 hg1 hs1 hB hRE hGot hBe hkey hfv hlk ho ho1 ho2 hB1 hRE1 hBe1 hb3 hrow hlt1
      have e0 : (w1.alloc (.cells #[.int .i64 x.f0, .int .i64 x.f1, .string x.f2] 24)).cell? ⟨w.heap.size, 0, none⟩ = some vv := by simp [World.cell?, hB3]
      go_upto_region 7 with (fail)
      clear hrun hen
      generalize (w1.alloc (.cells #[.int .i64 x.f0, .int .i64 x.f1, .string x.f2] 24)) = W3 at *
      generalize w1.heap.size = vb at *
      have v0 : W3.cell? ⟨vb, 0, none⟩ = some (.int .i64 x.f0) := by simp [World.cell?, hV3]
      have v1 : W3.cell? ⟨vb, 1, none⟩ = some (.int .i64 x.f1) := by simp [World.cell?, hV3]
      have v2 : W3.cell? ⟨vb, 2, none⟩ = some (.string x.f2) := by simp [World.cell?, hV3]
      clear hV3 hB3 hG3
      go_wp2_with ((with_reducible refine gate_builtin (b := .append) (xs := #[.tmp 16, .tmp 18]) rfl ?_); at_builtin; refine Kd.R_append kV (w0 := w) (W := W3) w.heap.size rfl (.tmp 16) (.tmp 18) 43 24 (.agg #[.int .i64 0, .int .i64 0, .string ⟨#[]⟩]) 32 rfl Try.underlying43 infoV rfl (by decide) (by decide) vv E x [.int .i64 x.f0, .int .i64 x.f1, .string x.f2] (fun _ => True) (fun _ => False) rfl rfl (k24_mkM _ _ _ x) (fun _ h => h.elim) (fun _ _ => trivial) hRE3 hBe3 hz3 (by omega) ?_; intro v1 w2 hR1 hb1 hg2 hat1; obtain ⟨A9, c9, e9⟩ := Kd.R_slice hR1; subst e9; have hB9 := (hg2.block _ (Array.getElem?_eq_some_iff.1 HB3.out).1 (fun e => by
          obtain ⟨cells, hc⟩ := Kd.R_typed hRE3 _ e.symm
          have hB3 := HB3.out
          rw [hc] at hB3
          injection hB3 with hB3
          injection hB3 with _ hB3
          exact absurd hB3 (by decide))).trans HB3.out; have q0 : w2.cell? ⟨w.heap.size, 0, none⟩ = some vv := (by simp [World.cell?, hB9]); have q1 : w2.frozen? ⟨w.heap.size, 0, none⟩ = false := (by simp [World.frozen?, hB9]); have q2 : w2.shape? w.heap.size = some (43, 1) := (by simp [World.shape?, hB9]))
      have hl9 : (E ++ [x]).length = E.length + 1 := by simp
      rw [hl9] at hR1
      have hG3 := HG3.out
      obtain ⟨o, ho, ho1, ho2⟩ := hG3.obj
      obtain ⟨es, c, hm3⟩ := hG3.owns.obj
      have far : ∀ {g : Nat} {o : Obj}, W3.heap[g]? = some o → (∀ c t z, o ≠ .cells c t z) → some g ≠ vv.ownBlock := fun hgo hno e => by
        obtain ⟨cells, hc⟩ := Kd.R_typed hRE3 _ e.symm
        rw [hc] at hgo
        injection hgo with hgo
        exact hno _ _ _ hgo.symm
      have hG4 := hG3.kept hg2 (far hm3 (by simp)) (far ho ho1)
      have hg5 : w2.grownBy (w2.setCell ⟨w.heap.size, 0, none⟩ (.slice A9 (E.length + 1) c9)) (some w.heap.size) := ⟨rfl, rfl, rfl, by simp [World.setCell], fun k _ hk => Below.heap_setCell _ _ _ k (fun e => hk (by rw [e]))⟩
      obtain ⟨o4, ho4, ho41, ho42⟩ := hG4.obj
      obtain ⟨es4, c4, hm4⟩ := hG4.owns.obj
      have hG5 := hG4.kept hg5 (obj_ne hm4 hB9 (by simp)) (obj_ne ho4 hB9 (ho41 _ _ _))
      have hB5 : (w2.setCell ⟨w.heap.size, 0, none⟩ (.slice A9 (E.length + 1) c9)).heap[w.heap.size]? = some (.cells #[.slice A9 (E.length + 1) c9] 43 (0, 0)) := by simp [World.setCell, Array.getElem?_modify, hB9]
      have hR5 := Kd.R_set hR1 hB9 (by decide) 0 (.slice A9 (E.length + 1) c9)
      have hBe5 := below_grown hb1 hg5 (fun k e => by injection e with e; omega)
      go_roundw
      case rel => exact ⟨_, cnt1, E ++ [x], _, hG5, hB5, hR5, HGot.out, hBe5⟩
      case measure => rw [hG5.left_eq, hme]; exact Hlt.out
end Go.Proofs.Ytcpaejdipohndaa.V
namespace Go.Proofs.Ytcpaejdipohndaa.V
open Go.RowKit Go.Sort Go.Shelf Go.Lib Go.Maps Go.Proofs.YtcpaejdipohndaaW.PrintWords Go.Proofs.Ytcpaejdipohndaa.PAll
set_option linter.unusedVariables false
set_option linter.unusedSimpArgs false
theorem C_of_block {α : Type} (d : Kd α) {w : World} {g : Nat} {cells : Array Value} {t : TypeId} {fr : Nat × Nat} (hb : w.heap[g]? = some (.cells cells t fr)) {xs : List α} (hr : Reps (d.K w) d.sz xs cells.toList) (hm : xs.length ≤ 9223372036854775807) : d.C w (some ⟨g, 0, none⟩) xs.length xs := by
  refine ⟨rfl, hm, fun _ => ⟨⟨g, 0, none⟩, rfl, fun j p hp => ⟨(cells.toList.drop (j * d.sz)).take d.sz, ?_, hr.2 j p hp, fun i u hu => ?_⟩⟩⟩
  · have hj := (List.getElem?_eq_some_iff.1 hp).1
    have := Nat.mul_le_mul_right d.sz (show j + 1 ≤ xs.length from hj)
    rw [Nat.add_mul, Nat.one_mul, ← hr.1] at this
    simp at this ⊢
    omega
  · refine World.news_of_block hb _ u ?_
    have hi : i < d.sz := by
      have := (List.getElem?_eq_some_iff.1 hu).1
      simp at this
      omega
    rw [List.getElem?_take_of_lt hi, List.getElem?_drop] at hu
    exact hu
def sCity : ByteArray := ⟨#[99, 105, 116, 121]⟩
def sUlm : ByteArray := ⟨#[85, 108, 109]⟩
def sBonn : ByteArray := ⟨#[66, 111, 110, 110]⟩
def sRome : ByteArray := ⟨#[82, 111, 109, 101]⟩
def wd (s : ByteArray) : Va := ⟨2, 0, s⟩
def pt (id : Int) (s : ByteArray) : Pt := ⟨id, [], [⟨sCity, wd s⟩]⟩
def sureL : List Pt := [pt 1 sUlm, pt 2 sBonn, ⟨3, [], []⟩, pt 4 sUlm, ⟨1, [], []⟩]
theorem good_wd {s : ByteArray} (h : s.size ≤ 8) : GoodV (wd s) := ⟨(by decide : (Lit.int .i64 2).wf = true), (by decide : (Lit.int .i64 0).wf = true), by show s.size ≤ maxLen; unfold maxLen; omega⟩
theorem sureG : GoodL sureL := by
  refine ⟨fun p hp => ?_, fun p hp => ?_, fun p hp x hx => ?_⟩
  · simp only [sureL, List.mem_cons, List.not_mem_nil, or_false] at hp
    rcases hp with rfl | rfl | rfl | rfl | rfl <;> decide
  · simp only [sureL, List.mem_cons, List.not_mem_nil, or_false] at hp
    rcases hp with rfl | rfl | rfl | rfl | rfl <;> decide
  · simp only [sureL, List.mem_cons, List.not_mem_nil, or_false] at hp
    rcases hp with rfl | rfl | rfl | rfl | rfl <;> simp [pt] at hx
    all_goals (subst hx; exact good_wd (by decide))
theorem get_pt (id : Int) (s : ByteArray) : getV (pt id s).f2 sCity = some (wd s) := by simp [getV, pt]
theorem val1 : valOf sureL sCity 1 = none := by simp [valOf, lastP, sureL, pt, getV]
theorem val2 : valOf sureL sCity 2 = some (wd sBonn) := by simp [valOf, lastP, sureL, pt, getV]
theorem val3 : valOf sureL sCity 3 = none := by simp [valOf, lastP, sureL, pt, getV]
theorem val4 : valOf sureL sCity 4 = some (wd sUlm) := by simp [valOf, lastP, sureL, pt, getV]
theorem neUB : wd sUlm ≠ wd sBonn := by intro h; exact absurd (congrArg (fun v : Va => v.f2.size) h) (by decide)
theorem neRB : wd sRome ≠ wd sBonn := by intro h; exact absurd (congrArg (fun v : Va => v.f2.data.toList) h) (by decide)
theorem neRU : wd sRome ≠ wd sUlm := by intro h; exact absurd (congrArg (fun v : Va => v.f2.size) h) (by decide)
theorem b1 : (wd sBonn == wd sUlm) = false := beq_eq_false_iff_ne.2 neUB.symm
theorem b2 : (wd sBonn == wd sRome) = false := beq_eq_false_iff_ne.2 neRB.symm
theorem b3 : (wd sUlm == wd sRome) = false := beq_eq_false_iff_ne.2 neRU.symm
theorem b4 : (wd sUlm == wd sBonn) = false := beq_eq_false_iff_ne.2 neUB
theorem sureIds : sureL.map (·.f0) = [1, 2, 3, 4, 1] := rfl
theorem findUlm : findL sureL sCity (wd sUlm) = [4] := by
  unfold findL
  rw [sureIds]
  have : ([1, 2, 3, 4, 1] : List Int).filter (fun id => valOf sureL sCity id == some (wd sUlm)) = [4] := by simp [List.filter, val1, val2, val3, val4, b1]
  rw [this]
  exact H.rising_ext (union_rising _) (by decide) (fun x => by rw [mem_unionL])
theorem findRome : findL sureL sCity (wd sRome) = [] := by
  unfold findL
  rw [sureIds]
  have : ([1, 2, 3, 4, 1] : List Int).filter (fun id => valOf sureL sCity id == some (wd sRome)) = [] := by simp [List.filter, val1, val2, val3, val4, b2, b3]
  rw [this]
  exact (unionL_nil_iff []).2 rfl
theorem anySure : anyL sureL sCity = [2, 4] := by
  unfold anyL
  rw [sureIds]
  have : ([1, 2, 3, 4, 1] : List Int).filter (fun id => (valOf sureL sCity id).isSome) = [2, 4] := by simp [List.filter, val1, val2, val3, val4]
  rw [this]
  exact H.rising_ext (union_rising _) (by decide) (fun x => by rw [mem_unionL])
theorem findBonn : findL sureL sCity (wd sBonn) ≠ [] := by
  unfold findL
  rw [sureIds, Ne, unionL_nil_iff]
  simp [List.filter, val1, val2, val3, val4, b4]
theorem rise_eq : ∀ (a b : List Va), a.Pairwise (fun x y => ltV x y = true) → b.Pairwise (fun x y => ltV x y = true) → (∀ x, x ∈ a ↔ x ∈ b) → a = b := by
  have irr := swo_ltV.irrefl
  intro a
  induction a with
  | nil => intro b _ _ h; cases b with
    | nil => rfl
    | cons y s => exact absurd ((h y).2 (by simp)) (by simp)
  | cons x r ih =>
    intro b ha hb h
    cases b with
    | nil => exact absurd ((h x).1 (by simp)) (by simp)
    | cons y s =>
      rw [List.pairwise_cons] at ha hb
      have e : x = y := by
        rcases List.mem_cons.1 ((h x).1 (by simp)) with e | hx
        · exact e
        · rcases List.mem_cons.1 ((h y).2 (by simp)) with e | hy
          · exact e.symm
          · have := swo_ltV.trans _ _ _ (ha.1 y hy) (hb.1 x hx)
            rw [irr] at this; cases this
      subst e
      congr 1
      refine ih s ha.2 hb.2 (fun z => ?_)
      constructor
      · intro hz
        rcases List.mem_cons.1 ((h z).1 (by simp [hz])) with e | hz'
        · subst e; have := ha.1 z hz; rw [irr] at this; cases this
        · exact hz'
      · intro hz
        rcases List.mem_cons.1 ((h z).2 (by simp [hz])) with e | hz'
        · subst e; have := hb.1 z hz; rw [irr] at this; cases this
        · exact hz'
theorem valsSure {E : List Va} (h : IsVals sureL sCity E) : E = [wd sBonn, wd sUlm] := by
  have h3 : ltV (wd sBonn) (wd sUlm) = true := by
    rw [ltV_iff]
    refine .inr ⟨rfl, .inr ⟨rfl, ?_⟩⟩
    show sBonn.toList < sUlm.toList
    rw [ByteArray.toList_eq, ByteArray.toList_eq]
    decide
  refine rise_eq _ _ h.1 (by simp [h3]) (fun v => ?_)
  rw [h.2]
  constructor
  · rintro ⟨_, hne⟩
    obtain ⟨p, hp, e⟩ := findL_ne hne
    simp only [sureL, List.mem_cons, List.not_mem_nil, or_false] at hp
    rcases hp with rfl | rfl | rfl | rfl | rfl
    · have : valOf sureL sCity 1 = some v := e; rw [val1] at this; cases this
    · have : valOf sureL sCity 2 = some v := e; rw [val2] at this; cases this; simp
    · have : valOf sureL sCity 3 = some v := e; rw [val3] at this; cases this
    · have : valOf sureL sCity 4 = some v := e; rw [val4] at this; cases this; simp
    · have : valOf sureL sCity 1 = some v := e; rw [val1] at this; cases this
  · intro hv
    simp only [List.mem_cons, List.not_mem_nil, or_false] at hv
    rcases hv with rfl | rfl
    · exact ⟨good_wd (by decide), findBonn⟩
    · exact ⟨good_wd (by decide), by rw [findUlm]; simp⟩
end Go.Proofs.Ytcpaejdipohndaa.V
namespace Go.Proofs.Ytcpaejdipohndaa.V
open Go.RowKit Go.Sort Go.Shelf Go.Lib Go.Maps Go.Proofs.YtcpaejdipohndaaW.PrintWords Go.Proofs.Ytcpaejdipohndaa.PAll
set_option linter.unusedVariables false
set_option linter.unusedSimpArgs false
theorem ints_of_C {w : World} {A : Option Addr} {xs : List Int} (h : Kd.C (Kd.int .i64) w A xs.length xs) (hn : 0 < xs.length) :
    ∃ b off, A = some ⟨b, off, none⟩ ∧ b < w.heap.size ∧ ∀ j, j < xs.length → w.cell? ⟨b, off + j, none⟩ = some (.int .i64 (xs.getD j 0)) := by
  obtain ⟨ad, rfl, hc⟩ := (Kd.reads_of_C (d := (0 : Int)) h).2.2 hn
  obtain ⟨b, off, sp⟩ := ad
  have h0 := hc 0 hn
  have hsp : sp = none := by
    cases sp with
    | none => rfl
    | some s =>
      simp only [Addr.add, if_true, World.cell?] at h0
      split at h0 <;> simp at h0
  subst hsp
  have hall : ∀ j, j < xs.length → w.cell? ⟨b, off + j, none⟩ = some (.int .i64 (xs.getD j 0)) := fun j hj => by
    have := hc j hj
    unfold Addr.add at this
    split at this
    · next hj0 => subst hj0; exact this
    · exact this
  exact ⟨b, off, rfl, World.block_lt_of_cell? w _ (hall 0 hn), hall⟩
theorem word_calls (s : ByteArray) (w : World) : Calls Try.prog 33 #[.string s] w fun e w' => e = .returned (.agg #[.int .i64 2, .int .i64 0, .string s]) ∧ Below w.heap.size w w' := by
  have hb1 : Below w.heap.size w (w.alloc (.cells #[.int .i64 2, .int .i64 0, .string s] 24)) := (Below.refl _ w).alloc (Nat.le_refl _) _
  have hV1 := World.alloc_heap_new w (.cells #[.int .i64 2, .int .i64 0, .string s] 24)
  have k0 : (w.alloc (.cells #[.int .i64 2, .int .i64 0, .string s] 24)).cell? ⟨w.heap.size, 0, none⟩ = some (.int .i64 2) := cell_of_blk hV1 (j := 0) rfl
  have k1 : (w.alloc (.cells #[.int .i64 2, .int .i64 0, .string s] 24)).cell? ⟨w.heap.size, 1, none⟩ = some (.int .i64 0) := cell_of_blk hV1 (j := 1) rfl
  have k2 : (w.alloc (.cells #[.int .i64 2, .int .i64 0, .string s] 24)).cell? ⟨w.heap.size, 2, none⟩ = some (.string s) := cell_of_blk hV1 (j := 2) rfl
  clear hV1
  go_enter Try.func33, Try.ntmps33
  go_wp2_with fail
  exact bodyPost_ret (v := .agg #[.int .i64 2, .int .i64 0, .string s]) (by simp [results, Try.results33, go_sem, k0, k1, k2]) rfl ⟨rfl, hb1⟩
set_option maxHeartbeats 1000000 in
theorem same_calls (A0 : Option Addr) (c0 : Nat) (l0 : List Int) (A1 : Option Addr) (c1 : Nat) (l1 : List Int) (w : World) (hr0 : Kd.C (Kd.int .i64) w A0 l0.length l0) (hc0 : l0.length ≤ c0) (hr1 : Kd.C (Kd.int .i64) w A1 l1.length l1) (hc1 : l1.length ≤ c1) (hn : l0.length ≤ 4611686018427387904) :
    Calls Try.prog 27 #[.slice A0 l0.length c0, .slice A1 l1.length c1] w fun e w' => e = .returned (.bool (decide (l0 = l1))) ∧ Below w.heap.size w w' := by
  have H0 := Lib.hid hr0
  have H1 := Lib.hid hr1
  clear hr0 hr1
  go_enter Try.func27, Try.ntmps27
  by_cases hl : l0.length = l1.length
  · have hd : decide ((l0.length : Int) = (l1.length : Int)) = true := decide_eq_true (by omega)
    rw [← hl]
    go_wp2_with fail
    go_loopw [5] (fun s W => ∃ (k : Nat), k ≤ l0.length ∧ s = .int .i64 k ∧ Below w.heap.size w W ∧ l0.take k = l1.take k) (fun s _ => l0.length - (intOf s).toNat)
    case atStart => exact ⟨0, Nat.zero_le _, rfl, Below.refl _ _, by simp⟩
    case round =>
      obtain ⟨k, hk, rfl, hW, hT⟩ := hrel
      have HW := Lib.hid hW
      have HT := Lib.hid hT
      by_cases hlt : k < l0.length
      · have hlt' : decide ((k : Int) < (l0.length : Int)) = true := decide_eq_true (by omega)
        obtain ⟨b0, o0, rfl, hb0, hcs0⟩ := ints_of_C H0.out (by omega)
        obtain ⟨b1, o1, rfl, hb1, hcs1⟩ := ints_of_C H1.out (by omega)
        have d0 : wr.cell? ⟨b0, o0 + k, none⟩ = some (.int .i64 (l0.getD k 0)) := (hW.cell (p := ⟨b0, o0 + k, none⟩) hb0).trans (hcs0 k hlt)
        have d1 : wr.cell? ⟨b1, o1 + k, none⟩ = some (.int .i64 (l1.getD k 0)) := (hW.cell (p := ⟨b1, o1 + k, none⟩) hb1).trans (hcs1 k (by omega))
        have hT1 : Hid (l0.take (k + 1) = l0.take k ++ [l0.getD k 0]) := Lib.hid (by rw [List.take_succ_eq_append_getElem hlt, List.getD, List.getElem?_eq_getElem hlt]; rfl)
        have hT2 : Hid (l1.take (k + 1) = l1.take k ++ [l1.getD k 0]) := Lib.hid (by rw [List.take_succ_eq_append_getElem (by omega), List.getD, List.getElem?_eq_getElem (by omega)]; rfl)
        have HX : Hid (l0 = l1 → l0.getD k 0 = l1.getD k 0) := Lib.hid (fun e => by rw [e])
        clear hcs0 hcs1 hT hW
        generalize l0.getD k 0 = x at *
        generalize l1.getD k 0 = y at *
        go_wp2
        go_quiet (fail)
        by_cases hxy : x = y
        · have hd2 : decide (x = y) = true := decide_eq_true hxy
          go_wp2
          go_roundw
          case rel => exact ⟨k + 1, by omega, by go_num, pw_below_drewN HW.out _, by rw [hT1.out, hT2.out, HT.out, hxy]⟩
          case measure => simp [intOf]; omega
        · have hd2 : decide (x = y) = false := decide_eq_false hxy
          go_wp2
          go_ret
          exact ⟨by rw [decide_eq_false (fun e => hxy (HX.out e))]; rfl, pw_below_drewN HW.out _⟩
      · have hlt' : decide ((k : Int) < (l0.length : Int)) = false := decide_eq_false (by omega)
        go_wp2
        go_ret
        refine ⟨?_, HW.out⟩
        have e1 : l0 = l1 := by
          have := HT.out
          rwa [List.take_of_length_le (by omega), List.take_of_length_le (by omega)] at this
        rw [decide_eq_true e1]; rfl
  · have hd : decide ((l0.length : Int) = (l1.length : Int)) = false := decide_eq_false (by omega)
    go_wp2_with fail
    go_ret
    exact ⟨by rw [decide_eq_false (fun e => hl (by rw [e]))]; rfl, Below.refl _ _⟩
theorem ids_calls (A0 : Option Addr) (c0 : Nat) (l0 : List Int) (A1 : Option Addr) (c1 : Nat) (l1 : List Int) (w : World) (hr0 : Kd.C (Kd.int .i64) w A0 l0.length l0) (hc0 : l0.length ≤ c0) (hr1 : Kd.C (Kd.int .i64) w A1 l1.length l1) (hc1 : l1.length ≤ c1) (hn : l0.length ≤ 4611686018427387904) :
    Calls Try.prog 10 #[.slice A0 l0.length c0, .slice A1 l1.length c1] w fun e w' => e = .returned (.bool (decide (l0 = l1))) ∧ Below w.heap.size w w' := by
  have C := same_calls A0 c0 l0 A1 c1 l1 w hr0 hc0 hr1 hc1 hn
  clear hr0 hr1
  go_enter Try.func10, Try.ntmps10
  go_wp2_with fail
  refine C.mono ?_
  rintro e w' ⟨rfl, hB⟩
  go_wp2_with fail
  go_ret
  exact ⟨rfl, hB⟩
end Go.Proofs.Ytcpaejdipohndaa.V
namespace Go.Proofs.Ytcpaejdipohndaa.V
open Go.RowKit Go.Sort Go.Shelf Go.Lib Go.Maps Go.Proofs.YtcpaejdipohndaaW.PrintWords Go.Proofs.Ytcpaejdipohndaa.PAll
set_option linter.unusedVariables false
set_option maxHeartbeats 1000000 in
theorem city_calls (id : Int) (s : ByteArray) (w : World) : Calls Try.prog 32 #[.int .i64 id, .string s] w fun e w' => ∃ g, e = .returned (.agg #[.int .i64 id, .slice none 0 0, .slice (some ⟨g, 0, none⟩) 1 1]) ∧ w'.heap[g]? = some (.cells #[.string sCity, .int .i64 2, .int .i64 0, .string s] 35 (0, 0)) ∧ Below w.heap.size w w' := by
  have hb1 : Below w.heap.size w (w.alloc (.cells #[.int .i64 0, .slice none 0 0, .slice none 0 0] 33)) := (Below.refl _ w).alloc (Nat.le_refl _) _
  have hV1 := World.alloc_heap_new w (.cells #[.int .i64 0, .slice none 0 0, .slice none 0 0] 33)
  go_enter Try.func32, Try.ntmps32
  go_wp2_with fail
  generalize (w.alloc (.cells #[.int .i64 0, .slice none 0 0, .slice none 0 0] 33)) = W1 at *
  refine (word_calls _ _).mono ?_
  rintro e w2 ⟨rfl, hB2⟩
  have hV2 := (hB2.block _ (Array.getElem?_eq_some_iff.1 hV1).1).trans hV1
  have hb3 : Below w2.heap.size w2 (w2.alloc (.cells #[.string ⟨#[99, 105, 116, 121]⟩, .int .i64 2, .int .i64 0, .string s] 35)) := (Below.refl _ w2).alloc (Nat.le_refl _) _
  have hV3 := (hb3.block _ (Array.getElem?_eq_some_iff.1 hV2).1).trans hV2
  have hN3 := World.alloc_heap_new w2 (.cells #[.string ⟨#[99, 105, 116, 121]⟩, .int .i64 2, .int .i64 0, .string s] 35)
  have hz2 : w.heap.size < w2.heap.size := (Array.getElem?_eq_some_iff.1 hV2).1
  have q0 : ∀ i, (w2.alloc (.cells #[.string ⟨#[99, 105, 116, 121]⟩, .int .i64 2, .int .i64 0, .string s] 35)).frozen? ⟨w.heap.size, i, none⟩ = false := fun i => by simp only [World.frozen?, hV3]; rfl
  have c0 := cell_of_blk hV3 (j := 0) rfl
  have c1 := cell_of_blk hV3 (j := 1) rfl
  have c2 := cell_of_blk hV3 (j := 2) rfl
  have q2 : (w2.alloc (.cells #[.string ⟨#[99, 105, 116, 121]⟩, .int .i64 2, .int .i64 0, .string s] 35)).shape? w.heap.size = some (33, 3) := by simp only [World.shape?, hV3]; rfl
  have e0 : w2.cell? ⟨w.heap.size, 0, none⟩ = some (.int .i64 0) := cell_of_blk hV2 (j := 0) rfl
  have e1 : w2.cell? ⟨w.heap.size, 1, none⟩ = some (.slice none 0 0) := cell_of_blk hV2 (j := 1) rfl
  have e2 : w2.cell? ⟨w.heap.size, 2, none⟩ = some (.slice none 0 0) := cell_of_blk hV2 (j := 2) rfl
  have e3 : ∀ i, w2.frozen? ⟨w.heap.size, i, none⟩ = false := fun i => by simp only [World.frozen?, hV2]; rfl
  have e4 : w2.shape? w.heap.size = some (33, 3) := by simp only [World.shape?, hV2]; rfl
  have HN3 := Lib.hid hN3
  have HV3 := Lib.hid hV3
  have HV2 := Lib.hid hV2
  clear hV1 hV2 hV3 hN3
  go_wp2_with fail
  have f0 := blk_set (blk_set (blk_set HV2.out 0 (.int .i64 id)) 1 (.slice none 0 0)) 2 (.slice (some ⟨w2.heap.size, 0, none⟩) 1 1)
  have f1 := (((hb1.trans (hB2.mono hb1.size)).setCell (p := ⟨w.heap.size, 0, none⟩) (Nat.le_refl _) (.int .i64 id)).setCell (p := ⟨w.heap.size, 1, none⟩) (Nat.le_refl _) (.slice none 0 0)).setCell (p := ⟨w.heap.size, 2, none⟩) (Nat.le_refl _) (.slice (some ⟨w2.heap.size, 0, none⟩) 1 1)
  have fz : (((w2.setCell ⟨w.heap.size, 0, none⟩ (.int .i64 id)).setCell ⟨w.heap.size, 1, none⟩ (.slice none 0 0)).setCell ⟨w.heap.size, 2, none⟩ (.slice (some ⟨w2.heap.size, 0, none⟩) 1 1)).heap.size = w2.heap.size := by simp [World.setCell]
  generalize (((w2.setCell ⟨w.heap.size, 0, none⟩ (.int .i64 id)).setCell ⟨w.heap.size, 1, none⟩ (.slice none 0 0)).setCell ⟨w.heap.size, 2, none⟩ (.slice (some ⟨w2.heap.size, 0, none⟩) 1 1)) = W4 at f0 f1 fz ⊢
  have g0 : Below W4.heap.size W4 (W4.alloc (.cells #[.string ⟨#[99, 105, 116, 121]⟩, .int .i64 2, .int .i64 0, .string s] 35)) := (Below.refl _ W4).alloc (Nat.le_refl _) _
  have g1 := (g0.block _ (Array.getElem?_eq_some_iff.1 f0).1).trans f0
  have g2 := World.alloc_heap_new W4 (.cells #[.string ⟨#[99, 105, 116, 121]⟩, .int .i64 2, .int .i64 0, .string s] 35)
  rw [fz] at g2
  have g3 := f1.trans (g0.mono (by omega))
  generalize W4.alloc (.cells #[.string ⟨#[99, 105, 116, 121]⟩, .int .i64 2, .int .i64 0, .string s] 35) = W5 at g1 g2 g3 ⊢
  have r0 : W5.cell? ⟨w.heap.size, 0, none⟩ = some (.int .i64 id) := cell_of_blk g1 (j := 0) rfl
  have r1 : W5.cell? ⟨w.heap.size, 1, none⟩ = some (.slice none 0 0) := cell_of_blk g1 (j := 1) rfl
  have r2 : W5.cell? ⟨w.heap.size, 2, none⟩ = some (.slice (some ⟨w2.heap.size, 0, none⟩) 1 1) := cell_of_blk g1 (j := 2) rfl
  exact bodyPost_ret (v := .agg #[.int .i64 id, .slice none 0 0, .slice (some ⟨w2.heap.size, 0, none⟩) 1 1]) (by simp [results, Try.results32, go_sem, r0, r1, r2]) rfl ⟨w2.heap.size, rfl, g2, g3⟩
end Go.Proofs.Ytcpaejdipohndaa.V
namespace Go.Proofs.Ytcpaejdipohndaa.V
open Go.RowKit Go.Sort Go.Shelf Go.Lib Go.Maps Go.Proofs.YtcpaejdipohndaaW.PrintWords Go.Proofs.Ytcpaejdipohndaa.PAll
set_option linter.unusedVariables false
theorem vals_of_C {w : World} {A : Option Addr} {xs : List Va} (h : Kd.C kV w A xs.length xs) (hn : 0 < xs.length) :
    ∃ b off, A = some ⟨b, off, none⟩ ∧ b < w.heap.size ∧ ∀ j (hj : j < xs.length), w.cell? ⟨b, off + j * 3, none⟩ = some (.int .i64 xs[j].f0) ∧ w.cell? ⟨b, off + j * 3 + 1, none⟩ = some (.int .i64 xs[j].f1) ∧ w.cell? ⟨b, off + j * 3 + 2, none⟩ = some (.string xs[j].f2) := by
  obtain ⟨ad, rfl, h00, -⟩ := at_T24 h 0 (Int.le_refl _) (by omega)
  obtain ⟨b, off, sp⟩ := ad
  have hsp : sp = none := by
    cases sp with
    | none => rfl
    | some s =>
      simp only [Int.toNat_zero, Nat.zero_mul, Addr.add, if_true, World.cell?] at h00
      split at h00 <;> simp at h00
  subst hsp
  have hb : b < w.heap.size := World.block_lt_of_cell? w _ h00
  refine ⟨b, off, rfl, hb, fun j hj => ?_⟩
  obtain ⟨ad, e, h1, h2, h3⟩ := at_T24 h (j : Int) (by omega) (by omega)
  cases e
  have ea : ((⟨b, off, none⟩ : Addr).add ((j : Int).toNat * 3)) = ⟨b, off + j * 3, none⟩ := by unfold Addr.add; split <;> simp_all
  rw [ea] at h1 h2 h3
  have er : rd_T24 xs (j : Int) = xs[j] := by unfold rd_T24; simp [hj]
  rw [er] at h1 h2 h3
  exact ⟨h1, h2, h3⟩
end Go.Proofs.Ytcpaejdipohndaa.V
namespace Go.Proofs.Ytcpaejdipohndaa.V
open Go.RowKit Go.Sort Go.Shelf Go.Lib Go.Maps Go.Proofs.YtcpaejdipohndaaW.PrintWords Go.Proofs.Ytcpaejdipohndaa.PAll
set_option linter.unusedVariables false
set_option maxRecDepth 100000 in
set_option maxHeartbeats 1000000 in
theorem sameV_calls (A0 : Option Addr) (c0 : Nat) (l0 : List Va) (A1 : Option Addr) (c1 : Nat) (l1 : List Va) (w : World) (hr0 : Kd.C kV w A0 l0.length l0) (hc0 : l0.length ≤ c0) (hr1 : Kd.C kV w A1 l1.length l1) (hc1 : l1.length ≤ c1) (hn : l0.length ≤ 4611686018427387904) :
    Calls Try.prog 15 #[.slice A0 l0.length c0, .slice A1 l1.length c1] w fun e w' => e = .returned (.bool (decide (l0 = l1))) ∧ Below w.heap.size w w' := by
  have H0 := Lib.hid hr0
  have H1 := Lib.hid hr1
  clear hr0 hr1
  go_enter Try.func15, Try.ntmps15
  by_cases hl : l0.length = l1.length
  · have hd : decide ((l0.length : Int) = (l1.length : Int)) = true := decide_eq_true (by omega)
    rw [← hl]
    go_wp2_with fail
    have HL := Lib.hid hl
    clear hl
    go_loopw [5] (fun s W => ∃ (k : Nat), k ≤ l0.length ∧ s = .int .i64 k ∧ Below w.heap.size w W ∧ l0.take k = l1.take k) (fun s _ => l0.length - (intOf s).toNat)
    case atStart => exact ⟨0, Nat.zero_le _, rfl, Below.refl _ _, by simp⟩
    case round =>
      obtain ⟨k, hk, rfl, hW, hT⟩ := hrel
      have HW := Lib.hid hW
      have HT := Lib.hid hT
      by_cases hlt : k < l0.length
      · have hlt' : decide ((k : Int) < (l0.length : Int)) = true := decide_eq_true (by omega)
        obtain ⟨b0, o0, rfl, hb0, hcs0⟩ := vals_of_C H0.out (by omega)
        obtain ⟨b1, o1, rfl, hb1, hcs1⟩ := vals_of_C H1.out (by have := HL.out; omega)
        obtain ⟨x0, x1, x2⟩ := hcs0 k hlt
        obtain ⟨y0, y1, y2⟩ := hcs1 k (by have := HL.out; omega)
        have d0 := (hW.cell (p := ⟨b0, o0 + k * 3, none⟩) hb0).trans x0
        have d1 := (hW.cell (p := ⟨b0, o0 + k * 3 + 1, none⟩) hb0).trans x1
        have d2 := (hW.cell (p := ⟨b0, o0 + k * 3 + 2, none⟩) hb0).trans x2
        have d3 := (hW.cell (p := ⟨b1, o1 + k * 3, none⟩) hb1).trans y0
        have d4 := (hW.cell (p := ⟨b1, o1 + k * 3 + 1, none⟩) hb1).trans y1
        have d5 := (hW.cell (p := ⟨b1, o1 + k * 3 + 2, none⟩) hb1).trans y2
        have hk1 : k < l1.length := by have := HL.out; omega
        have hT1 : Hid (l0.take (k + 1) = l0.take k ++ [l0[k]]) := Lib.hid (List.take_succ_eq_append_getElem hlt)
        have hT2 : Hid (l1.take (k + 1) = l1.take k ++ [l1[k]]) := Lib.hid (List.take_succ_eq_append_getElem hk1)
        have HX : Hid (l0 = l1 → l0[k] = l1[k]) := Lib.hid (fun e => by subst e; rfl)
        clear hcs0 hcs1 hT hW x0 x1 x2 y0 y1 y2
        generalize l0[k] = x at *
        generalize l1[k] = y at *
        obtain ⟨x0, x1, x2⟩ := x
        obtain ⟨y0, y1, y2⟩ := y
        dsimp only at d0 d1 d2 d3 d4 d5
        have q0 := eq_true (show (0 : Int) ≤ (k : Int) by omega)
        have q1 := eq_true (show (k : Int) < (l0.length : Int) by omega)
        have q2 : (k < l0.length) = True := eq_true hlt
        have q3 := eq_true (show (k : Int) < (l1.length : Int) by omega)
        have q4 : (k < l1.length) = True := eq_true hk1
        have q5 : decide ((k : Int) < 0) = false := decide_eq_false (by omega)
        by_cases hxy : (!(x0 == y0) || (!(x1 == y1) || !(x2.toList == y2.toList))) = true
        · have hne : (⟨x0, x1, x2⟩ : Va) ≠ ⟨y0, y1, y2⟩ := by
            intro e
            injection e with e0 e1 e2
            subst e0; subst e1; subst e2
            simp at hxy
          have hu24 := Try.underlying24
          go_wp2
          refine still_tail 8 (by kernel_rfl) (by kernel_rfl) ?_
          simp only [List.take_succ_cons, List.take_zero, List.drop_succ_cons, List.drop_zero]
          still_step
          still_step
          still_step
          still_step
          still_step
          still_step
          still_step
          still_step
          refine wpStill_nil ?_
          clear hxy
          have hne2 : x0 = y0 → x1 = y1 → x2.toList = y2.toList → False := fun e0 e1 e2 => hne (by
            subst e0; subst e1
            rw [ByteArray.toList_eq, ByteArray.toList_eq] at e2
            have : x2 = y2 := by
              cases x2; cases y2
              congr 1
              exact Array.toList_inj.1 e2
            rw [this])
          have Hne2 := Lib.hid hne2
          have Hne := Lib.hid hne
          clear hne hne2
          go_wp2
          all_goals first
            | (exfalso; exact Hne2.out (by assumption) (by assumption) (by assumption))
            | (go_ret; exact ⟨by rw [decide_eq_false (fun e => Hne.out (HX.out e))]; rfl, pw_below_drewN HW.out 1⟩)
        · have hxy2 : (!(x0 == y0) || (!(x1 == y1) || !(x2.toList == y2.toList))) = false := by simpa using hxy
          have heq : (⟨x0, x1, x2⟩ : Va) = ⟨y0, y1, y2⟩ := by
            simp at hxy
            obtain ⟨e0, e1, e2⟩ := hxy
            subst e0; subst e1
            rw [ByteArray.toList_eq, ByteArray.toList_eq] at e2
            have : x2 = y2 := by
              cases x2; cases y2
              congr 1
              exact Array.toList_inj.1 e2
            rw [this]
          injection heq with e0 e1 e2
          subst e0; subst e1; subst e2
          clear hxy hxy2
          have hu24 := Try.underlying24
          go_wp2
          refine still_tail 8 (by kernel_rfl) (by kernel_rfl) ?_
          simp only [List.take_succ_cons, List.take_zero, List.drop_succ_cons, List.drop_zero]
          still_step
          still_step
          still_step
          still_step
          still_step
          still_step
          still_step
          still_step
          refine wpStill_nil ?_
          go_wp2
          go_roundw
          case rel => exact ⟨k + 1, by omega, by go_num, pw_below_drewN HW.out 1, by rw [hT1.out, hT2.out, HT.out]⟩
          case measure => simp [intOf]; omega
      · have hlt' : decide ((k : Int) < (l0.length : Int)) = false := decide_eq_false (by omega)
        go_wp2
        go_ret
        refine ⟨?_, HW.out⟩
        have e1 : l0 = l1 := by
          have := HT.out
          rwa [List.take_of_length_le (by omega), List.take_of_length_le (by have := HL.out; omega)] at this
        rw [decide_eq_true e1]; rfl
  · have hd : decide ((l0.length : Int) = (l1.length : Int)) = false := decide_eq_false (by omega)
    go_wp2_with fail
    go_ret
    exact ⟨by rw [decide_eq_false (fun e => hl (by rw [e]))]; rfl, Below.refl _ _⟩
end Go.Proofs.Ytcpaejdipohndaa.V
namespace Go.Proofs.Ytcpaejdipohndaa.V
open Go.RowKit Go.Sort Go.Shelf Go.Lib Go.Maps Go.Proofs.YtcpaejdipohndaaW.PrintWords Go.Proofs.Ytcpaejdipohndaa.PAll
set_option linter.unusedVariables false
theorem C_nil {α : Type} (d : Kd α) (w : World) (A : Option Addr) : d.C w A 0 [] := ⟨rfl, by decide, fun h => absurd h (by decide)⟩
theorem field_C {w : World} {g : Nat} {s : ByteArray} (h : w.heap[g]? = some (.cells #[.string sCity, .int .i64 2, .int .i64 0, .string s] 35 (0, 0))) : Kd.C k35 w (some ⟨g, 0, none⟩) 1 [⟨sCity, wd s⟩] :=
  C_of_block k35 h (Reps.snoc (Reps.none _ _) (k35_mk w ⟨sCity, wd s⟩) rfl) (by simp)
theorem pt_K {w : World} {g : Nat} {s : ByteArray} (id : Int) (h : w.heap[g]? = some (.cells #[.string sCity, .int .i64 2, .int .i64 0, .string s] 35 (0, 0))) : k33.K w (pt id s) [.int .i64 id, .slice none 0 0, .slice (some ⟨g, 0, none⟩) 1 1] :=
  k33_mk w (pt id s) (A1 := none) (c1 := 0) (Nat.le_refl _) (C_nil _ _ _) (A2 := some ⟨g, 0, none⟩) (c2 := 1) (Nat.le_refl _) (field_C h)
theorem pt0_K (w : World) (id : Int) : k33.K w ⟨id, [], []⟩ [.int .i64 id, .slice none 0 0, .slice none 0 0] :=
  k33_mk w ⟨id, [], []⟩ (A1 := none) (c1 := 0) (Nat.le_refl _) (C_nil _ _ _) (A2 := none) (c2 := 0) (Nat.le_refl _) (C_nil _ _ _)
def sureCells (g1 g2 g4 : Nat) : Array Value := #[.int .i64 1, .slice none 0 0, .slice (some ⟨g1, 0, none⟩) 1 1, .int .i64 2, .slice none 0 0, .slice (some ⟨g2, 0, none⟩) 1 1, .int .i64 3, .slice none 0 0, .slice none 0 0, .int .i64 4, .slice none 0 0, .slice (some ⟨g4, 0, none⟩) 1 1, .int .i64 1, .slice none 0 0, .slice none 0 0]
theorem sure_C {w : World} {b g1 g2 g4 : Nat} (h1 : w.heap[g1]? = some (.cells #[.string sCity, .int .i64 2, .int .i64 0, .string sUlm] 35 (0, 0)))
    (h2 : w.heap[g2]? = some (.cells #[.string sCity, .int .i64 2, .int .i64 0, .string sBonn] 35 (0, 0)))
    (h4 : w.heap[g4]? = some (.cells #[.string sCity, .int .i64 2, .int .i64 0, .string sUlm] 35 (0, 0)))
    (hb : w.heap[b]? = some (.cells (sureCells g1 g2 g4) 33 (0, 0))) : Kd.C k33 w (some ⟨b, 0, none⟩) 5 sureL :=
  C_of_block k33 hb (Reps.snoc (Reps.snoc (Reps.snoc (Reps.snoc (Reps.snoc (Reps.none _ _) (pt_K 1 h1) rfl) (pt_K 2 h2) rfl) (pt0_K w 3) rfl) (pt_K 4 h4) rfl) (pt0_K w 1) rfl) (by decide)
theorem ints_C1 {w : World} {b : Nat} (x : Int) (hb : w.heap[b]? = some (.cells #[.int .i64 x] 3 (0, 0))) : Kd.C (Kd.int .i64) w (some ⟨b, 0, none⟩) 1 [x] :=
  C_of_block (Kd.int .i64) hb (Reps.snoc (Reps.none _ _) (show (Kd.int .i64).K w x [.int .i64 x] from rfl) rfl) (by simp)
theorem ints_C2 {w : World} {b : Nat} (x y : Int) (hb : w.heap[b]? = some (.cells #[.int .i64 x, .int .i64 y] 3 (0, 0))) : Kd.C (Kd.int .i64) w (some ⟨b, 0, none⟩) 2 [x, y] :=
  C_of_block (Kd.int .i64) hb (Reps.snoc (Reps.snoc (Reps.none _ _) (show (Kd.int .i64).K w x [.int .i64 x] from rfl) rfl) (show (Kd.int .i64).K w y [.int .i64 y] from rfl) rfl) (by simp)
theorem vals_C {w : World} {b : Nat} {x y : Va} (hb : w.heap[b]? = some (.cells #[.int .i64 x.f0, .int .i64 x.f1, .string x.f2, .int .i64 y.f0, .int .i64 y.f1, .string y.f2] 24 (0, 0))) : Kd.C kV w (some ⟨b, 0, none⟩) 2 [x, y] :=
  C_of_block kV hb (Reps.snoc (Reps.snoc (Reps.none _ _) (k24_mk w x) rfl) (k24_mk w y) rfl) (by simp)
set_option maxRecDepth 100000 in
set_option maxHeartbeats 4000000 in
theorem sure_calls (w : World) : Calls Try.prog 19 #[] w fun e w' => e = .returned (.bool true) ∧ Below w.heap.size w w' := by
  go_enter Try.func19, Try.ntmps19
  have m1 : True := trivial
  go_wp2_with (clear m1; go_at_call 32; refine (city_calls 1 sUlm w).mono ?_; rintro e w1 ⟨g1, rfl, hg1, hB1⟩)
  have m1 : True := trivial
  go_wp2_with (clear m1; go_at_call 32; refine (city_calls 2 sBonn w1).mono ?_; rintro e w2 ⟨g2, rfl, hg2, hB2⟩)
  have m1 : True := trivial
  go_wp2_with (clear m1; go_at_call 32; refine (city_calls 4 sUlm w2).mono ?_; rintro e w4 ⟨g4, rfl, hg4, hB4⟩)
  go_wp2_with fail
  have l1 := (Array.getElem?_eq_some_iff.1 hg1).1
  have l2 := (Array.getElem?_eq_some_iff.1 hg2).1
  have l4 := (Array.getElem?_eq_some_iff.1 hg4).1
  have hB5 : Below w4.heap.size w4 (w4.alloc (.cells (sureCells g1 g2 g4) 33)) := (Below.refl _ w4).alloc (Nat.le_refl _) _
  have z1 := hB1.size
  have z2 := hB2.size
  have z4 := hB4.size
  have z5 := hB5.size
  have hC := sure_C ((hB5.block g1 (by omega)).trans ((hB4.block g1 (by omega)).trans ((hB2.block g1 (by omega)).trans hg1))) ((hB5.block g2 (by omega)).trans ((hB4.block g2 (by omega)).trans hg2)) ((hB5.block g4 (by omega)).trans hg4) (World.alloc_heap_new w4 (.cells (sureCells g1 g2 g4) 33))
  refine (build_calls (some ⟨w4.heap.size, 0, none⟩) 5 sureL sCity _ hC (by decide) (by decide) sureG).mono ?_
  rintro e w6 ⟨x, rfl, hX, hB6⟩
  have HB : Hid (Below w.heap.size w w6) := Lib.hid (hB1.trans (((hB2.trans (hB4.mono (by omega))).trans ((hB5.mono (by omega)).trans (hB6.mono (by omega)))).mono (by omega)))
  have hX' := hX
  obtain ⟨bx, bp, m, av, f, rfl, -⟩ := hX'
  have HX := Lib.hid hX
  clear hX hC hB1 hB2 hB4 hB5 hB6 hg1 hg2 hg4 l1 l2 l4 z1 z2 z4 z5
  have gU : GoodV (wd sUlm) := good_wd (by decide)
  have gR : GoodV (wd sRome) := good_wd (by decide)
  have m1 : True := trivial
  go_wp2_with (clear m1; go_at_call 33; refine (word_calls sUlm w6).mono ?_; rintro e w7 ⟨rfl, hB⟩; have HX7 := Lib.hid (HX.out.below hB); have HB7 := Lib.hid (HB.out.trans (hB.mono HB.out.size)); clear HX HB hB)
  have cf := find_calls HX7.out (by decide) gU
  rw [findUlm] at cf
  have m1 : True := trivial
  go_wp2_with (clear m1; go_at_call 11; refine cf.mono ?_; rintro e w8 ⟨u, rfl, hR, hB⟩; obtain ⟨A, c, rfl, hc, hC⟩ := hR.reads; have HX8 := Lib.hid (HX7.out.below hB); have HB8 := Lib.hid (HB7.out.trans (hB.mono HB7.out.size)); clear HX7 HB7 hB cf hR)
  have hb9 : Below w8.heap.size w8 (w8.alloc (.cells #[.int .i64 4] 3)) := (Below.refl _ w8).alloc (Nat.le_refl _) _
  have ci := ids_calls A c [4] (some ⟨w8.heap.size, 0, none⟩) 1 [4] (w8.alloc (.cells #[.int .i64 4] 3)) (Kd.C_below hC hb9) hc (ints_C1 4 (World.alloc_heap_new w8 _)) (Nat.le_refl _) (by decide)
  have m1 : True := trivial
  go_wp2_with (clear m1; go_at_call 10; refine ci.mono ?_; rintro e w9 ⟨rfl, hB⟩; have HX9 := Lib.hid ((HX8.out.below hb9).below hB); have HB9 := Lib.hid (HB8.out.trans ((hb9.trans (hB.mono hb9.size)).mono HB8.out.size)); clear HX8 HB8 hB hb9 ci hC)
  have ca := any_calls HX9.out (by decide)
  rw [anySure] at ca
  have m1 : True := trivial
  go_wp2_with (clear m1; go_at_call 13; refine ca.mono ?_; rintro e w10 ⟨u2, rfl, hR, hB⟩; obtain ⟨A2, c2, rfl, hc2, hC2⟩ := hR.reads; have HX10 := Lib.hid (HX9.out.below hB); have HB10 := Lib.hid (HB9.out.trans (hB.mono HB9.out.size)); clear HX9 HB9 hB ca hR)
  have hb11 : Below w10.heap.size w10 (w10.alloc (.cells #[.int .i64 2, .int .i64 4] 3)) := (Below.refl _ w10).alloc (Nat.le_refl _) _
  have ci2 := ids_calls A2 c2 [2, 4] (some ⟨w10.heap.size, 0, none⟩) 2 [2, 4] (w10.alloc (.cells #[.int .i64 2, .int .i64 4] 3)) (Kd.C_below hC2 hb11) hc2 (ints_C2 2 4 (World.alloc_heap_new w10 _)) (Nat.le_refl _) (by decide)
  have m1 : True := trivial
  go_wp2_with (clear m1; go_at_call 10; refine ci2.mono ?_; rintro e w11 ⟨rfl, hB⟩; have HX11 := Lib.hid ((HX10.out.below hb11).below hB); have HB11 := Lib.hid (HB10.out.trans ((hb11.trans (hB.mono hb11.size)).mono HB10.out.size)); clear HX10 HB10 hB hb11 ci2 hC2)
  have cl := len_calls HX11.out
  rw [anySure] at cl
  have m1 : True := trivial
  go_wp2_with (clear m1; go_at_call 18; refine cl.mono ?_; rintro e w12 ⟨rfl, rfl⟩; clear cl)
  have cv := values_calls HX11.out (by decide) (fun n h2 h5 => sorts_all swo_ltV n h2 (by have : sureL.length = 5 := rfl; omega))
  have m1 : True := trivial
  go_wp2_with (clear m1; go_at_call 16; refine cv.mono ?_; rintro e w13 ⟨u3, E, rfl, hR, hE, hB⟩; obtain rfl := valsSure hE; obtain ⟨A3, c3, rfl, hc3, hC3⟩ := Kd.R_reads hR; have HX13 := Lib.hid (HX11.out.below hB); have HB13 := Lib.hid (HB11.out.trans (hB.mono HB11.out.size)); have HC3 := Lib.hid hC3; clear HX11 HB11 hB cv hR hC3 hE)
  have m1 : True := trivial
  go_wp2_with (clear m1; go_at_call 33; refine (word_calls sBonn w13).mono ?_; rintro e w14 ⟨rfl, hB⟩; have HX14 := Lib.hid (HX13.out.below hB); have HC4 := Lib.hid (Kd.C_below HC3.out hB); have HB14 := Lib.hid (HB13.out.trans (hB.mono HB13.out.size)); clear HX13 HB13 hB HC3)
  have m1 : True := trivial
  go_wp2_with (clear m1; go_at_call 33; refine (word_calls sUlm w14).mono ?_; rintro e w15 ⟨rfl, hB⟩; have HX15 := Lib.hid (HX14.out.below hB); have HC5 := Lib.hid (Kd.C_below HC4.out hB); have HB15 := Lib.hid (HB14.out.trans (hB.mono HB14.out.size)); clear HX14 HB14 hB HC4)
  have hb16 : Below w15.heap.size w15 (w15.alloc (.cells #[.int .i64 (wd sBonn).f0, .int .i64 (wd sBonn).f1, .string (wd sBonn).f2, .int .i64 (wd sUlm).f0, .int .i64 (wd sUlm).f1, .string (wd sUlm).f2] 24)) := (Below.refl _ w15).alloc (Nat.le_refl _) _
  have cs := sameV_calls A3 c3 [wd sBonn, wd sUlm] (some ⟨w15.heap.size, 0, none⟩) 2 [wd sBonn, wd sUlm] (w15.alloc (.cells #[.int .i64 (wd sBonn).f0, .int .i64 (wd sBonn).f1, .string (wd sBonn).f2, .int .i64 (wd sUlm).f0, .int .i64 (wd sUlm).f1, .string (wd sUlm).f2] 24)) (Kd.C_below HC5.out hb16) hc3 (vals_C (World.alloc_heap_new w15 _)) (Nat.le_refl _) (by simp)
  have m1 : True := trivial
  go_wp2_with (clear m1; go_at_call 15; refine cs.mono ?_; rintro e w16 ⟨rfl, hB⟩; have HX16 := Lib.hid ((HX15.out.below hb16).below hB); have HB16 := Lib.hid (HB15.out.trans ((hb16.trans (hB.mono hb16.size)).mono HB15.out.size)); clear HX15 HB15 hB hb16 cs HC5)
  have m1 : True := trivial
  go_wp2_with (clear m1; go_at_call 33; refine (word_calls sRome w16).mono ?_; rintro e w17 ⟨rfl, hB⟩; have HX17 := Lib.hid (HX16.out.below hB); have HB17 := Lib.hid (HB16.out.trans (hB.mono HB16.out.size)); clear HX16 HB16 hB)
  have cf2 := find_calls HX17.out (by decide) gR
  rw [findRome] at cf2
  have m1 : True := trivial
  go_wp2_with (clear m1; go_at_call 11; refine cf2.mono ?_; rintro e w18 ⟨u, rfl, hR, hB⟩; obtain ⟨A6, c6, rfl, hc6, hC6⟩ := hR.reads; have HB18 := Lib.hid (HB17.out.trans (hB.mono HB17.out.size)); clear HX17 HB17 hB cf2 hR hC6)
  go_ret
  exact ⟨rfl, HB18.out⟩
end Go.Proofs.Ytcpaejdipohndaa.V
