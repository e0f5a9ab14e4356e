/- Rules for by-value frames, generic, no program. -/
import Derived.Test.YtffpfjnakhpheaaDoorBvM4
import Derived.Lib.Bytealg
import Derived.Laws.Strings
/-! Drawn regions whose last operations wait for all before them; cheap clearing. -/
namespace Go.Bv
open Go Go.RowKit
set_option linter.unusedSimpArgs false
set_option linter.unusedVariables false

/-- From m on each waits for all before it. -/
def lateB (n m : Nat) (A : List (List Nat)) : Bool := decide (m ≤ n) && (List.range n).all fun k => decide (k < m) || (List.range k).all fun j => ((A[k]?).getD []).contains j
section
variable {P : Program} {Γ : Tab} {S : List AV} {ops : Array Oper} {l : List Oper} {o : Oper} {N : List AV → Prop} {A : List (List Nat)} {F : (Nat → Bool) → List AV}

theorem anc_of (hA : ancOk ops A = true) : ∀ (k : Nat) (o : Oper), ops[k]? = some o → (∀ e ∈ o.after, Region.binds .any e = true → e.on < k) ∧ ∀ j ∈ (A[k]?).getD [], ∃ e ∈ o.after, Region.binds .any e = true ∧ (e.on = j ∨ j ∈ (A[e.on]?).getD []) := by
  intro k o ho
  have hlt : k < ops.size := (Array.getElem?_eq_some_iff.1 ho).1
  have := List.all_eq_true.1 hA k (List.mem_range.2 hlt)
  simp only [ho, Bool.and_eq_true, Array.all_eq_true_iff_forall_mem, Bool.or_eq_true, Bool.not_eq_true', decide_eq_true_eq, List.all_eq_true, Array.any_eq_true'] at this
  refine ⟨fun e he hb => (this.1 e he).resolve_left (by simp [hb]), fun j hj => ?_⟩
  obtain ⟨e, he, h1⟩ := this.2 j hj
  refine ⟨e, he, h1.1, h1.2.imp (fun h => by simpa using h) (fun h => by simpa using h)⟩
theorem anc_lt (hA : ancOk ops A = true) : ∀ (k : Nat), k < ops.size → ∀ j ∈ (A[k]?).getD [], j < k := by
  intro k
  induction k using Nat.strongRecOn with
  | _ k ih =>
    intro hk j hj
    have ho : ops[k]? = some ops[k] := by simp [hk]
    obtain ⟨h1, h2⟩ := anc_of hA k _ ho
    obtain ⟨e, he, hb, h3⟩ := h2 j hj
    have := h1 e he hb
    rcases h3 with h3 | h3
    · omega
    · have := ih e.on this (by omega) j h3
      omega
theorem late_of {n m : Nat} (h : lateB n m A = true) : m ≤ n ∧ ∀ k, m ≤ k → k < n → ∀ j, j < k → j ∈ (A[k]?).getD [] := by
  simp only [lateB, Bool.and_eq_true, decide_eq_true_eq, List.all_eq_true, List.mem_range, Bool.or_eq_true] at h
  refine ⟨h.1, fun k hm hk j hj => ?_⟩
  rcases h.2 k hk with h2 | h2
  · omega
  · simpa using h2 j hj

theorem any_tail (hA : ancOk ops A = true) {m : Nat} (hlate : ∀ k, m ≤ k → k < ops.size → ∀ j, j < k → j ∈ (A[k]?).getD []) {Q : Exit → Act → World → Prop} :
    ∀ (fuel j : Nat) (listed : Array Bool) (a : Act) (w : World), m ≤ j → j ≤ ops.size → listed.size = ops.size → (∀ i, i < ops.size → listed[i]? = some (decide (i < j))) → ops.size - j ≤ fuel →
      wpOps P ops Q (List.range' j (ops.size - j)) a w → wpAny P .any ops Q fuel listed a w := by
  have hrd : ∀ (j : Nat) (listed : Array Bool), m ≤ j → (∀ i, i < ops.size → listed[i]? = some (decide (i < j))) → ∀ i ∈ Region.ready .any ops listed, i = j := by
    intro j listed hmj hl i hi
    obtain ⟨h1, o, ho, hpre⟩ := mem_ready.1 hi
    have hil : i < ops.size := (Array.getElem?_eq_some_iff.1 ho).1
    have hij : j ≤ i := by simpa [hl i hil] using h1
    rcases Nat.lt_or_ge j i with hlt | hge
    · exfalso
      obtain ⟨e, he, hb, h3⟩ := (anc_of hA i o ho).2 j (hlate i (by omega) hil j hlt)
      have he1 := (anc_of hA i o ho).1 e he hb
      have he2 : e.on < j := by
        have := hpre e he hb
        have h4 : e.on < ops.size := by omega
        simpa [hl _ h4] using this
      rcases h3 with h3 | h3
      · omega
      · have := anc_lt hA e.on (by omega) j h3
        omega
    · omega
  have hrn : ∀ (j : Nat) (listed : Array Bool), j < ops.size → (∀ i, i < ops.size → listed[i]? = some (decide (i < j))) → j ∈ Region.ready .any ops listed := by
    intro j listed hj hl
    rw [mem_ready]
    refine ⟨by simp [hl j hj], ops[j], by simp [hj], fun e he hb => ?_⟩
    have := (anc_of hA j ops[j] (by simp [hj])).1 e he hb
    have h2 : e.on < ops.size := by omega
    simp [hl _ h2, this]
  intro fuel
  induction fuel with
  | zero =>
    intro j listed a w hmj hj hs hl hf h
    have e : j = ops.size := by omega
    subst e
    rw [Nat.sub_self] at h
    refine ⟨?_, h⟩
    apply List.eq_nil_iff_forall_not_mem.2
    intro i hi
    have := hrd _ listed hmj hl i hi
    obtain ⟨_, o, ho, _⟩ := mem_ready.1 hi
    have := (Array.getElem?_eq_some_iff.1 ho).1
    omega
  | succ fuel ih =>
    intro j listed a w hmj hj hs hl hf h
    rcases Nat.lt_or_ge j ops.size with hlt | hge
    · refine ⟨fun hr => ?_, fun i hi => ?_⟩
      · have := hrn j listed hlt hl
        rw [hr] at this
        simp at this
      · have e := hrd j listed hmj hl i hi
        subst e
        rw [show ops.size - i = (ops.size - (i + 1)) + 1 by omega, List.range'_succ, wpOps_cons] at h
        refine wpOp_mono (fun a' w' h' => ih (i + 1) _ a' w' (by omega) (by omega) (by simp [hs]) (fun k hk => ?_) (by omega) h') h
        by_cases hki : k = i
        · subst hki; simp [hs, hk]
        · rw [Array.getElem?_setIfInBounds_ne (by omega), hl k hk]
          congr 1
          rw [decide_eq_decide]; omega
    · have e : j = ops.size := by omega
      subst e
      rw [Nat.sub_self] at h
      refine ⟨fun _ => h, fun i hi => ?_⟩
      have := hrd _ listed hmj hl i hi
      obtain ⟨_, o, ho, _⟩ := mem_ready.1 hi
      have := (Array.getElem?_eq_some_iff.1 ho).1
      omega

theorem undone_len {n m : Nat} (h : m ≤ n) : ((List.range n).filter fun k => !decide (k < m)).length = n - m := by
  obtain ⟨d, rfl⟩ : ∃ d, n = m + d := ⟨n - m, by omega⟩
  rw [List.range_add, List.filter_append, List.length_append]
  have e1 : (List.range m).filter (fun k => !decide (k < m)) = [] := by
    rw [List.filter_eq_nil_iff]
    intro k hk
    simpa using hk
  have e2 : ((List.range d).map (m + ·)).filter (fun k => !decide (k < m)) = (List.range d).map (m + ·) := by
    rw [List.filter_eq_self]
    intro k hk
    simp only [List.mem_map] at hk
    obtain ⟨j, _, rfl⟩ := hk
    simp
  rw [e1, e2]
  simp

theorem any_go2 (hA : ancOk ops A = true) {m : Nat} (hm : m ≤ ops.size) (hlate : ∀ k, m ≤ k → k < ops.size → ∀ j, j < k → j ∈ (A[k]?).getD []) (hst : Steps P ops A F 0 (ops.toList.take m)) {K : Kp P} (hF : ∀ o ∈ ops.toList, K.free o.dst) {w0 : World} {Z0 : Nat → Prop} {Q : Exit → Act → World → Prop}
    (hQ : ∀ D a w, (∀ k, k < m → D k = true) → At K w0 Z0 (F D) a w → wpOps P ops Q (List.range' m (ops.size - m)) a w) :
    ∀ (fuel : Nat) (listed : Array Bool) (D : Nat → Bool) (a : Act) (w : World), listed.size = ops.size → (∀ j, j < ops.size → listed[j]? = some (D j)) → (∀ k, m ≤ k → D k = false) →
      Cl A D → ((List.range ops.size).filter fun k => !D k).length ≤ fuel → At K w0 Z0 (F D) a w → wpAny P .any ops Q fuel listed a w := by
  intro fuel
  induction fuel with
  | zero =>
    intro listed D a w hs hl hlat hinv hf hAt
    have hall : ∀ k, k < ops.size → D k = true := by
      intro k hk
      have : (List.range ops.size).filter (fun k => !D k) = [] := List.eq_nil_of_length_eq_zero (by omega)
      have := List.filter_eq_nil_iff.1 this k (List.mem_range.2 hk)
      simpa using this
    have e : m = ops.size := by
      rcases Nat.lt_or_ge m ops.size with h | h
      · have := hall m h; rw [hlat m (Nat.le_refl _)] at this; cases this
      · omega
    refine any_tail hA hlate 0 m listed a w (Nat.le_refl _) hm hs (fun i hi => ?_) (by omega) (hQ D a w (fun k hk => hall k (by omega)) hAt)
    rw [hl i hi, hall i hi]; simp; omega
  | succ fuel ih =>
    intro listed D a w hs hl hlat hinv hf hAt
    by_cases hall : ∀ k, k < m → D k = true
    · have hD : ∀ i, D i = decide (i < m) := fun i => by
        by_cases hi : i < m
        · rw [hall i hi]; simp [hi]
        · rw [hlat i (by omega)]; simp [hi]
      refine any_tail hA hlate _ m listed a w (Nat.le_refl _) hm hs (fun i hi => by rw [hl i hi, hD i]) ?_ (hQ D a w hall hAt)
      have e : (fun k => !D k) = fun k => !decide (k < m) := by funext k; rw [hD k]
      rw [e, undone_len hm] at hf
      exact hf
    · refine ⟨fun hr => ?_, fun i hi => ?_⟩
      · exfalso
        apply hall
        intro k
        induction k using Nat.strongRecOn with
        | _ k ihk =>
          intro hk
          cases hD : D k with
          | true => rfl
          | false =>
            have hks : k < ops.size := by omega
            have : k ∈ Region.ready .any ops listed := by
              rw [mem_ready]
              refine ⟨by simp [hl k hks, hD], ops[k], by simp [hks], fun e he hb => ?_⟩
              have := (anc_of hA k ops[k] (by simp [hks])).1 e he hb
              have h2 : e.on < ops.size := by omega
              simp [hl _ h2, ihk _ this (by omega)]
            rw [hr] at this
            simp at this
      obtain ⟨h1, o, ho, hpre⟩ := mem_ready.1 hi
      have hil : i < ops.size := (Array.getElem?_eq_some_iff.1 ho).1
      have hDi : D i = false := by simpa [hl i hil] using h1
      have hanc : ∀ j ∈ (A[i]?).getD [], D j = true := by
        intro j hj
        obtain ⟨e, he, hb, h2⟩ := (anc_of hA i o ho).2 j hj
        have hlt := (anc_of hA i o ho).1 e he hb
        have hDe : D e.on = true := by
          have := hpre e he hb
          have h3 : e.on < ops.size := by omega
          simpa [hl _ h3] using this
        rcases h2 with h2 | h2
        · rw [← h2]; exact hDe
        · exact hinv e.on hDe j h2
      have him : i < m := by
        rcases Nat.lt_or_ge i m with h | h
        · exact h
        · exact absurd (fun k hk => hanc k (hlate i h hil k (by omega))) hall
      have hst' := steps_at (k := 0) (j := i) (o := o) hst (by rw [List.getElem?_take, if_pos him]; simpa using ho) D hinv (by simpa using hDi) (by simpa using hanc)
      rw [Nat.zero_add] at hst'
      have hnext : ∀ a' w', At K w0 Z0 (F (also D i)) a' w' → wpAny P .any ops Q fuel (listed.setIfInBounds i true) a' w' := by
        intro a' w' hAt'
        refine ih _ (also D i) a' w' (by simp [hs]) (fun j hj => ?_) (fun k hk => ?_) (fun k hD j hj => ?_) ?_ hAt'
        · by_cases hji : j = i
          · subst hji; simp [also, hs, hil]
          · have : (j == i) = false := by simp [hji]
            rw [Array.getElem?_setIfInBounds_ne (by omega), hl j hj]; simp [also, this]
        · have : (k == i) = false := by simp; omega
          simp [also, this, hlat k hk]
        · have mono : ∀ j, D j = true → also D i j = true := fun j h => by unfold also; cases (j == i) <;> simp [h]
          by_cases hki : k = i
          · subst hki; exact mono j (hanc j hj)
          · have : (k == i) = false := by simp [hki]
            simp only [also, this, cond_false] at hD
            exact mono j (hinv k hD j hj)
        · have hlt : ((List.range ops.size).filter fun k => !also D i k).length < ((List.range ops.size).filter fun k => !D k).length := by
            have hsub : ((List.range ops.size).filter fun k => !also D i k) = (((List.range ops.size).filter fun k => !D k).filter fun k => !(k == i)) := by
              rw [List.filter_filter]
              apply List.filter_congr
              intro k _
              unfold also
              cases (k == i) <;> simp
            rw [hsub]
            refine List.length_filter_lt_length_iff_exists.2 ⟨i, ?_, by simp⟩
            rw [List.mem_filter]
            exact ⟨List.mem_range.2 hil, by simp [hDi]⟩
          omega
      unfold wpOp
      simp only [ho]
      rcases hst' with ⟨hg, hop⟩ | ⟨hg, hput⟩
      · rw [gchk_wanted hAt hg, if_pos rfl]
        exact .inl (Oper.wp_mono (fun a' w' h => hnext a' w' h) (hop K w0 Z0 a w (hF o (by rw [Array.mem_toList_iff]; exact Array.mem_of_getElem? ho)) hAt Q))
      · rw [gchk_wanted hAt hg, if_neg (by simp)]
        refine hnext _ w ?_
        rw [← hput]
        exact hAt.skip o.dst (hF o (by rw [Array.mem_toList_iff]; exact Array.mem_of_getElem? ho))

theorem steps_vals {l1 : List Oper} (hpre : ∀ (i : Nat) (o : Oper), l1[i]? = some o → ops[i]? = some o) (hi : indepB ops A = true) (hn : nom (dsts l1) S = true) {vs : List AV} (h1 : vs.length = l1.length) (h2 : ∀ v ∈ vs, nomA (dsts l1) v = true)
    (h3 : ∀ (i : Nat) (o : Oper) (v : AV), l1[i]? = some o → vs[i]? = some v → LOC P ops (dsts l1) o (fillO (fun j => decide (j < i)) 0 l1 vs S) v) : Steps P ops A (fun D => fillO D 0 l1 vs S) 0 l1 := by
  have hcf : ∀ (i k : Nat) (a b : Oper), l1[i]? = some a → l1[k]? = some b → i < k → confl ops a b = true → i ∈ (A[k]?).getD [] := by
    intro i k a b ha hb hik hc
    have hb' := hpre k b hb
    have hlt : k < ops.size := (Array.getElem?_eq_some_iff.1 hb').1
    have := List.all_eq_true.1 hi k (List.mem_range.2 hlt)
    simp only [hb', Bool.and_eq_true, List.all_eq_true, List.mem_range] at this
    have := this.2 i hik
    simpa [hpre i a ha, hc] using this
  have hds : ∀ (i : Nat) (o : Oper), l1[i]? = some o → ∀ d, o.dst = some d → d ∈ dsts l1 := fun i o ho d hd => List.mem_filterMap.2 ⟨o, List.mem_of_getElem? ho, hd⟩
  refine steps_of l1 0 fun k o ho D hD hk hanc => ?_
  simp only [Nat.zero_add] at hk hanc ⊢
  obtain ⟨v, hv⟩ : ∃ v, vs[k]? = some v := by
    have : k < vs.length := by rw [h1]; exact (List.getElem?_eq_some_iff.1 ho).1
    exact ⟨vs[k], by simp [this]⟩
  have hlater : ∀ (j : Nat) (b : Oper), l1[j]? = some b → k < j → confl ops o b = true → D j = false := by
    intro j b hb hkj hc
    cases hDj : D j with
    | false => rfl
    | true => have := hD j hDj k (hcf k j o b ho hb hkj hc); rw [hk] at this; cases this
  have hfill : fillO (also D k) 0 l1 vs S = sput o.dst v (fillO D 0 l1 vs S) := by
    apply List.ext_getElem?
    intro t
    by_cases hd : o.dst = some t
    · have e1 := fillO_hit (D := also D k) l1 vs 0 k S o v ho hv hd (by simp [also]) (fun j b hkj hb hbt => by
        have := hlater j b hb hkj (by simp [confl, hd, hbt])
        have hne : (j == k) = false := by simp; omega
        simp [also, hne, this])
      rw [e1, hd]
      simp only [sput, List.getElem?_set, if_true, fillO_len]
    · rw [sput_ne hd]
      refine fillO_at l1 vs 0 S S rfl rfl fun j b hb hbt => ?_
      have hne : (j == k) = false := by
        cases hjk : j == k with
        | false => rfl
        | true =>
          simp only [beq_iff_eq] at hjk
          subst hjk
          rw [ho] at hb
          simp only [Option.some.injEq] at hb
          subst hb
          exact absurd hbt hd
      simp [also, hne]
  show AS P ops o (fillO D 0 l1 vs S) (fillO (also D k) 0 l1 vs S)
  rw [hfill]
  refine h3 k o v ho hv (fillO_nom _ _ _ _ hn h2) (hds k o ho) _ (fillO_nom _ _ _ _ hn h2) (fun t ht => ?_) (fun t ht => ?_)
  · exact fillO_at l1 vs 0 S S rfl rfl fun j b hb hbt => absurd (hds j b hb t hbt) ht
  · refine fillO_at l1 vs 0 S S rfl rfl fun j b hb hbt => ?_
    simp only [Nat.zero_add]
    rcases Nat.lt_trichotomy j k with hjk | hjk | hjk
    · rw [hanc j (hcf j k b o hb ho hjk ?_)]
      · simp [hjk]
      · simp only [confl, hbt]
        cases o.dst <;> simp [ht]
    · subst hjk; simp [hk]
    · rw [hlater j b hb hjk ?_]
      · simp; omega
      · simp only [confl, hbt]
        cases o.dst <;> simp [ht]

/-- A drawn region: first such as only read and reckon, l1; then such as wait for all before them, l2. -/
theorem aw_anyT (hT : TabOk P Γ) {id : Nat} {Q : Exit → List AV → Prop} (A : List (List Nat)) (m : Nat) (ds : List Nat) {l1 l2 : List Oper} (e1 : l.take m = l1) (e2 : l.drop m = l2) (hd : dsts l1 = ds) (hA : ancOk l.toArray A = true) (hi : indepB l.toArray A = true)
    (hlate : lateB l.length m A = true) (hn : nom ds S = true) (h : AD P l.toArray ds l1 S (fun S' => AL P false l.toArray l2 S' (Q .normal))) : AW P (.region id l.toArray true) S Q := by
  subst hd
  obtain ⟨vs, h1, h2, h3, h4⟩ := ad_vals h
  obtain ⟨hm, hl⟩ := late_of hlate
  have hl1 : l1.length = m := by rw [← e1, List.length_take]; omega
  have hpre : ∀ (i : Nat) (o : Oper), l1[i]? = some o → l.toArray[i]? = some o := by
    intro i o ho
    rw [← e1, List.getElem?_take] at ho
    split at ho
    · simpa using ho
    · cases ho
  have hst := steps_vals (P := P) hpre hi hn h1 h2 h3
  intro K w0 Z0 a w hF hAt
  have hlsz : l.toArray.size = l.length := by simp
  refine wp_region_any hT.follows (any_go2 (Q := fun e a w => ∃ S', Q e S' ∧ At K w0 Z0 S' a w) (K := K) (F := fun D => fillO D 0 l1 vs S) (A := A) (w0 := w0) (Z0 := Z0) hA (m := m) (by simpa using hm) (fun k hk hk2 => hl k hk (by simpa using hk2)) (by simpa [e1] using hst) (by simpa [Kp.frees] using hF) (fun D a w hD hAt => ?_) _ _ (fun _ => false) _ _ (by simp) (fun j hj => by simp only [Array.getElem?_replicate]; rw [if_pos hj]) (fun _ _ => rfl) (fun i h => by cases h) ?_ ?_)
  · have e : fillO D 0 l1 vs S = fillO (fun _ => true) 0 l1 vs S := by
      apply List.ext_getElem?
      intro t
      exact fillO_at l1 vs 0 S S rfl rfl fun j b hb _ => by rw [Nat.zero_add]; exact hD j (by rw [← hl1]; exact (List.getElem?_eq_some_iff.1 hb).1)
    rw [e] at hAt
    have := h4 K w0 Z0 a w (fun o ho => by
      have hFo : ∀ o ∈ l, K.free o.dst := by simpa [Kp.frees] using hF
      exact hFo o (by rw [← e2] at ho; exact List.mem_of_mem_drop ho)) hAt (fun e a w => ∃ S', Q e S' ∧ At K w0 Z0 S' a w) (fun S' a' w' hN h' => ⟨S', hN, h'⟩) m (fun j => by rw [← e2, List.getElem?_drop]; simp)
    have hlen : l2.length = l.toArray.size - m := by rw [← e2, List.length_drop]; simp
    rw [hlen] at this
    exact this
  · exact Nat.le_trans (List.length_filter_le _ _) (by simp)
  · show At K w0 Z0 (fillO (fun _ => false) 0 l1 vs S) a _
    rw [fillO_none]; exact hAt.drawn
end

/-- None of these is done. -/
def allF (D : Nat → Bool) : List Nat → Prop
  | [] => True
  | j :: r => D j = false ∧ allF D r
theorem allF_of {D : Nat → Bool} : ∀ (r : List Nat), (∀ j ∈ r, D j = false) → allF D r
  | [], _ => trivial
  | j :: r, h => ⟨h j (by simp), allF_of r fun i hi => h i (by simp [hi])⟩
theorem steps_cons2 {P : Program} {ops : Array Oper} {l : List Oper} {o : Oper} {A : List (List Nat)} {F : (Nat → Bool) → List AV} {k : Nat} (ds : List Nat) (hds : (ds.all fun j => ((A[j]?).getD []).contains k) = true)
    (h1 : ∀ D, D k = false → allT D ((A[k]?).getD []) → allF D ds → AS P ops o (F D) (F (also D k))) (h2 : Steps P ops A F (k + 1) l) : Steps P ops A F k (o :: l) :=
  ⟨fun D hC hk hd => h1 D hk (allT_of _ hd) (allF_of _ fun j hj => by
    cases hDj : D j with
    | false => rfl
    | true =>
      have := hC j hDj k (by simpa using List.all_eq_true.1 hds j hj)
      rw [hk] at this; cases this), h2⟩
/-! ### cheap clearing -/
mutual
theorem roots_men (d : Nat) : ∀ x : AV, d ∈ mroots x → menA d x = true
  | .at r _, h => by simp [mroots] at h; simp [menA, h]
  | .ref r _ _ _, h => by simp [mroots] at h; simp [menA, h]
  | .agg xs, h => by simp only [mroots, menA] at h ⊢; exact rootss_men d xs h
  | .tup xs, h => by simp only [mroots, menA] at h ⊢; exact rootss_men d xs h
  | .fn _ xs, h => by simp only [mroots, menA] at h ⊢; exact rootss_men d xs h
  | .ip x, h => by simp only [mroots, menA] at h ⊢; exact roots_men d x h
  | .undef, h | .bool _, h | .int _ _, h | .str _, h | .lst _ _ _, h | .box _, h => by simp [mroots] at h
theorem rootss_men (d : Nat) : ∀ xs : List AV, d ∈ mrootss xs → menAs d xs = true
  | [], h => by simp [mrootss] at h
  | x :: xs, h => by
    simp only [mrootss, List.mem_append] at h
    simp only [menAs, Bool.or_eq_true]
    exact h.imp (roots_men d x) (rootss_men d xs)
end
theorem aun_nom (d : Nat) (x : AV) : aun d x = if nomA [d] x then x else .undef := by
  by_cases h : d ∈ mroots x
  · have e : nomA [d] x = false := by
      rw [nomA, List.all_eq_false]
      exact ⟨d, h, by simp⟩
    simp [aun, roots_men d x h, e]
  · have e : nomA [d] x = true := by
      rw [nomA, List.all_eq_true]
      intro r hr
      have : r ≠ d := fun e => h (by rw [← e]; exact hr)
      simp [this]
    simp [aun, men_roots d x h, e]
/-- Slots ds are cleared. -/
def clrG : Nat → List Nat → List AV → List AV
  | _, _, [] => []
  | i, [], x :: S => x :: clrG (i + 1) [] S
  | i, d :: ds, x :: S => bif i == d then .undef :: clrG (i + 1) ds S else x :: clrG (i + 1) (d :: ds) S
/-- The others don't lean on them. -/
def keepB (all : List Nat) : Nat → List Nat → List AV → Bool
  | _, _, [] => true
  | i, [], x :: S => nomA all x && keepB all (i + 1) [] S
  | i, d :: ds, x :: S => bif i == d then keepB all (i + 1) ds S else (nomA all x && keepB all (i + 1) (d :: ds) S)
/-- Rising, from i. -/
def riseB : Nat → List Nat → Bool
  | _, [] => true
  | i, d :: ds => decide (i ≤ d) && riseB (d + 1) ds
theorem nomA_cons (d : Nat) (ds : List Nat) (x : AV) : nomA (d :: ds) x = (nomA [d] x && nomA ds x) := by
  rw [Bool.eq_iff_iff]
  simp only [nomA, Bool.and_eq_true, List.all_eq_true, Bool.not_eq_true', List.contains_eq_mem, List.mem_cons, decide_eq_false_iff_not, not_or, List.not_mem_nil, or_false]
  exact ⟨fun h => ⟨fun r hr => (h r hr).1, fun r hr => (h r hr).2⟩, fun h r hr => ⟨h.1 r hr, h.2 r hr⟩⟩
theorem aput_undef (d : Nat) (S : List AV) (t : Nat) : ∃ f : AV → AV, (∀ x, nomA [d] x = true → f x = x) ∧ (aput (some d) .undef S)[t]? = (S[t]?).map fun x => if t = d then .undef else f x := by
  simp only [aput]
  split
  · rename_i x hx
    have hlt : d < S.length := (List.getElem?_eq_some_iff.1 hx).1
    split
    · refine ⟨aun d, fun y hy => by rw [aun_nom, hy]; rfl, ?_⟩
      by_cases htd : t = d
      · subst htd
        simp [List.getElem?_set, hlt, aun, menA]
      · have hdt : ¬ d = t := fun e => htd e.symm
        simp [List.getElem?_set, htd, hdt]
    · refine ⟨id, fun _ _ => rfl, ?_⟩
      by_cases htd : t = d
      · subst htd
        simp [List.getElem?_set, hlt]
      · have hdt : ¬ d = t := fun e => htd e.symm
        simp [List.getElem?_set, htd, hdt]
  · rename_i hn
    have hge : S.length ≤ d := by simpa using hn
    refine ⟨id, fun _ _ => rfl, ?_⟩
    by_cases htd : t = d
    · subst htd
      simp [List.getElem?_eq_none hge]
    · simp [htd]
theorem clr_at : ∀ (ds : List Nat) (S : List AV) (t : Nat), (t ∉ ds → ∀ x, S[t]? = some x → nomA ds x = true) → (clr S ds)[t]? = (S[t]?).map fun x => if t ∈ ds then .undef else x := by
  intro ds
  induction ds with
  | nil => intro S t _; simp [clr]
  | cons d ds ih =>
    intro S t h
    simp only [clr]
    obtain ⟨f, hf, hput⟩ := aput_undef d S t
    have hfx : t ∉ d :: ds → ∀ x, S[t]? = some x → f x = x ∧ nomA ds x = true := by
      intro hm x hx
      have := h hm x hx
      rw [nomA_cons, Bool.and_eq_true] at this
      exact ⟨hf x this.1, this.2⟩
    rw [ih]
    · rw [hput, Option.map_map]
      cases hS : S[t]? with
      | none => rfl
      | some x =>
        simp only [Option.map_some, Function.comp, Option.some.injEq, List.mem_cons]
        by_cases htd : t = d
        · simp [htd]
        · by_cases h1 : t ∈ ds
          · simp [h1]
          · simp only [htd, h1, if_false, or_self]
            exact (hfx (by simp [htd, h1]) x hS).1
    · intro h1 y hy
      rw [hput] at hy
      cases hS : S[t]? with
      | none => simp [hS] at hy
      | some x =>
        simp only [hS, Option.map_some, Option.some.injEq] at hy
        by_cases htd : t = d
        · rw [if_pos htd] at hy; subst hy; rfl
        · rw [if_neg htd] at hy
          have := hfx (by simp [htd, h1]) x hS
          rw [this.1] at hy
          subst hy
          exact this.2
theorem rise_le : ∀ (ds : List Nat) (j : Nat), riseB j ds = true → ∀ k ∈ ds, j ≤ k
  | [], _, _, k, hk => by simp at hk
  | e :: ds, j, h, k, hk => by
    simp only [riseB, Bool.and_eq_true, decide_eq_true_eq] at h
    rcases List.mem_cons.1 hk with rfl | hk
    · exact h.1
    · have := rise_le ds (e + 1) h.2 k hk; omega
theorem clrG_at (all : List Nat) : ∀ (S : List AV) (i : Nat) (ds : List Nat), riseB i ds = true → keepB all i ds S = true → ∀ t, (clrG i ds S)[t]? = ((S[t]?).map fun x => if (i + t) ∈ ds then .undef else x) ∧ ((i + t) ∉ ds → ∀ x, S[t]? = some x → nomA all x = true)
  | [], i, ds, _, _, t => by cases ds <;> simp [clrG]
  | x :: S, i, [], _, hk, t => by
    simp only [keepB, Bool.and_eq_true] at hk
    cases t with
    | zero => simp [clrG, hk.1]
    | succ t =>
      have := clrG_at all S (i + 1) [] rfl hk.2 t
      simp only [clrG, List.getElem?_cons_succ]
      exact ⟨by simpa using this.1, fun _ => this.2 (by simp)⟩
  | x :: S, i, d :: ds, h, hk, t => by
    simp only [riseB, Bool.and_eq_true, decide_eq_true_eq] at h
    by_cases hid : i = d
    · subst hid
      simp only [keepB, beq_self_eq_true, cond_true] at hk
      simp only [clrG, beq_self_eq_true, cond_true]
      cases t with
      | zero => simp
      | succ t =>
        simp only [List.getElem?_cons_succ]
        have ih := clrG_at all S (i + 1) ds h.2 hk t
        have e : (i + (t + 1) ∈ i :: ds) ↔ (i + 1 + t ∈ ds) := by
          simp only [List.mem_cons]
          constructor
          · rintro (h | h)
            · omega
            · rw [show i + 1 + t = i + (t + 1) by omega]; exact h
          · intro h; right; rw [show i + (t + 1) = i + 1 + t by omega]; exact h
        simp only [e]
        exact ih
    · have hb : (i == d) = false := by simp [hid]
      simp only [keepB, hb, cond_false, Bool.and_eq_true] at hk
      simp only [clrG, hb, cond_false]
      have hr : riseB (i + 1) (d :: ds) = true := by simp only [riseB, Bool.and_eq_true, decide_eq_true_eq]; exact ⟨by omega, h.2⟩
      cases t with
      | zero =>
        have : i ∉ d :: ds := fun hm => by have := rise_le _ (i + 1) hr i hm; omega
        have h1 : ¬ i + 0 ∈ d :: ds := by simpa using this
        rw [List.getElem?_cons_zero, List.getElem?_cons_zero, Option.map_some, if_neg h1]
        refine ⟨rfl, fun _ y hy => ?_⟩
        simp only [Option.some.injEq] at hy
        subst hy
        exact hk.1
      | succ t =>
        simp only [List.getElem?_cons_succ]
        have ih := clrG_at all S (i + 1) (d :: ds) hr hk.2 t
        rw [show i + 1 + t = i + (t + 1) by omega] at ih
        exact ih
theorem clr_eq {ds : List Nat} {S : List AV} (h : riseB 0 ds = true) (hk : keepB ds 0 ds S = true) : clr S ds = clrG 0 ds S := by
  apply List.ext_getElem?
  intro t
  have := clrG_at ds S 0 ds h hk t
  rw [Nat.zero_add] at this
  rw [clr_at ds S t this.2, this.1]
/-- Kept out of sight of simp. -/
structure Kept (p : Prop) : Prop where
  out : p
/-- From here on, once the slots cl are cleared. -/
structure RestA (P : Program) (c : Code) (Q : Exit → List AV → Prop) (cl : List Nat) (S0 : List AV) : Prop where
  out : ∀ S, clr S cl = S0 → AW P c S Q
theorem rest_of {P : Program} {c : Code} {Q : Exit → List AV → Prop} {cl : List Nat} {S0 : List AV} (h : AW P c S0 Q) : RestA P c Q cl S0 := ⟨fun S e => aw_clr cl (by rw [e]; exact h)⟩
theorem rest_go {P : Program} {c : Code} {Q : Exit → List AV → Prop} {cl : List Nat} {S0 S : List AV} (h : RestA P c Q cl S0) (e : clr S cl = S0) : AW P c S Q := h.out S e
def csnd : Code → Code
  | .seq _ b => b
  | c => c
/-- What is left of a body behind its first n parts. -/
def cnth : Nat → Code → Code
  | 0, c => c
  | n + 1, c => cnth n (csnd c)
end Go.Bv

/-! append of a list that is handed over, elements and all. -/
namespace Go.Bv
open Go Go.RowKit
set_option linter.unusedSimpArgs false
set_option linter.unusedVariables false
section
variable {K : Nat → Prop} {w0 : World} {Z : Nat → Prop} {Sc L : List CV} {a : Act} {w : World} {P : Program} {Γ : Tab}
theorem append2_sound (hT : TabOk P Γ) (h : Good K w0 Z Sc L a w) {o : Oper} {T E : Nat} {x y : Operand} (ho : o.op = .call { callee := .builtin .append, args := #[x, y], argTypes := #[T, T] }) (hk : Γ.kind T = .sl E) (hE : Γ.kind E ≠ .no)
    {z : AV} (hz : Γ.zero E = some z) (hs0 : Γ.size E ≠ 0) {dv : AV} (hx : ard (ers Sc) x = some dv) {s : Nat} {xs S1 : List AV} (ht : atake (ers Sc) dv = some (.lst true s xs, S1)) (hs : (s = 0 ∧ xs = []) ∨ s = Γ.size E)
    {ev : AV} (hy : ard (ers Sc) y = some ev) (hno : ((arefs dv).any fun rp => hitA rp.1 rp.2 ev) = false) {s' : Nat} {ys S' : List AV} (hty : atake S1 ev = some (.lst true s' ys, S')) (hs2 : (s' = 0 ∧ ys = []) ∨ s' = Γ.size E)
    (hm : xs.length + ys.length ≤ 9223372036854775807) (hbnd : (xs.length + ys.length) * Γ.bytes E ≤ 140737488355328) :
    ES P K w0 Z L a w o (aput o.dst (.lst true (Γ.size E) (xs ++ ys)) S') := by
  obtain ⟨cx, rfl, vx, hrd, hnt⟩ := h.rd hx
  obtain ⟨cy, rfl, vy0, hrdy, hnty⟩ := h.rd hy
  obtain ⟨d, Sc1, e1, e2', hG1, hfl, hpl, hag, hrf⟩ := take_good cx Sc L h hrd.refOk hrd.wf hrd.ok hrd.fp _ S1 ht
  have hry : RefOk Sc1 cy := hrf cy hrdy.refOk fun rp hrp => by
    have hx : ∀ x, ¬ (x ∈ arefs (er cx) ∧ hitA x.1 x.2 (er cy) = true) := by simpa using hno
    have := hx rp
    rw [refs_er, hit_er] at this
    cases hh : hit rp.1 rp.2 cy with
    | false => rfl
    | true => exact absurd ⟨hrp, hh⟩ this
  rw [← e2'] at hty
  obtain ⟨e, Sc', f1, e2, hG2, hfl2, hpl2, hag2, _⟩ := take_good cy Sc1 (d :: L) hG1 hry hrdy.wf hrdy.ok hrdy.fp _ S' hty
  obtain ⟨A, c, xsC, rfl, rfl⟩ := er_lst e1
  obtain ⟨B, cb, ysC, rfl, rfl⟩ := er_lst f1
  have hvd : a.eval x = .slice A xsC.length c := by rw [← vx, ← val_same hfl hpl hag hnt]; rfl
  have vy : a.eval y = .slice B ysC.length cb := by rw [← vy0, ← val_same hfl2 hpl2 hag2 hnty]; rfl
  have hG : Good K w0 Z Sc' (.lst true s A c xsC :: .lst true s' B cb ysC :: L) a w := by
    refine hG2.beside ?_ (Fits.of_perm ?_) ?_
    · have := ((okL_append _ _).1 hG2.ok).2
      rw [okL_iff] at this ⊢
      intro z hz; exact this z (by simp at hz ⊢; rcases hz with h | h | h <;> simp [h])
    · simp only [fps]
      rw [← List.append_assoc, ← List.append_assoc]
      exact List.Perm.append_right _ List.perm_append_comm
    · intro z hz; exact hG2.nr z (by simp at hz ⊢; rcases hz with h | h | h <;> simp [h])
  have hdoky : Ok w Z (.lst true s' B cb ysC) := ((okL_append _ _).1 hG.ok).2.2.1
  have hdoky' := hdoky
  simp only [Ok] at hdoky
  obtain ⟨⟨_, y2, _⟩, y4, _, p3⟩ := hdoky
  have p1 : PlL ysC := by simpa only [Pl] using hpl2
  have p4 : ysC.length = 0 ∨ ∃ b, B = some b ∧ CellsAt w b (flats ysC) := by
    rcases y2 with h2 | ⟨b, q1, _, q2, _⟩
    · exact .inl h2
    · exact .inr ⟨b, q1, q2⟩
  obtain ⟨hz1, i, v, h1, h2, h3, h4⟩ := hT.zero E z hz
  obtain ⟨i', h1', hsz, hby⟩ := hT.size E hE
  rw [h1] at h1'; cases h1'
  have hu := hT.sl T E hk
  have hdok : Ok w Z (.lst true s A c xsC) := ((okL_append _ _).1 hG.ok).2.1
  have hdok' := hdok
  simp only [Ok] at hdok
  obtain ⟨⟨k1, k2, k3⟩, k4, _, k6⟩ := hdok
  have hplx : PlL xsC := by simpa only [Pl] using hpl
  have hyl : ∀ u ∈ ysC, (flat u).length = Γ.size E := fun u hu => by
    rcases hs2 with ⟨_, hs2⟩ | hs2
    · have : ysC = [] := by cases ysC <;> simp [ers] at hs2 ⊢
      subst this; simp at hu
    · rw [y4 u hu, hs2]
  have hxl : ∀ u ∈ xsC, (flat u).length = Γ.size E := fun u hu => by
    rcases hs with ⟨_, hs⟩ | hs
    · have : xsC = [] := by cases xsC <;> simp [ers] at hs ⊢
      subst this; simp at hu
    · rw [k4 u hu, hs]
  have hlens : ∀ us : List CV, (∀ u ∈ us, (flat u).length = Γ.size E) → (flats us).length = us.length * Γ.size E := by
    intro us
    induction us with
    | nil => intro _; simp [flats]
    | cons u us ih => intro hu; simp only [flats, List.length_append, List.length_cons, hu u (by simp), ih (fun q hq => hu q (by simp [hq]))]; rw [Nat.add_mul]; omega
  have hxlen := hlens xsC hxl
  have hylen := hlens ysC hyl
  have hrunof : ∀ v' w', (Builtin.append_ #[T, T] o.type #[.slice A xsC.length c, .slice B ysC.length cb]).run P w = .ok v' w' → (execOp a.eval o).run P w = .ok (.value v') w' := by
    intro v' w' hr
    unfold execOp
    simp only [ho, resolve, invoke, builtin, Sem.run_bind, Sem.run_pure, Result.andThen_ok, List.map_toArray, List.map_cons, List.map_nil, hvd, vy, hr]
  have hersl : (ers xsC).length = xsC.length := by simp [ers_eq]
  have hersl2 : (ers ysC).length = ysC.length := by simp [ers_eq]
  rw [hersl, hersl2] at hm hbnd
  have hnr : ∀ (A' : Option Addr) (c' : Nat), NR (.lst true (Γ.size E) A' c' (xsC ++ ysC)) := fun A' c' => by
    simp only [NR, Pl]
    rw [plL_iff] at hplx p1 ⊢
    intro u hu
    rcases List.mem_append.1 hu with hu | hu
    · exact hplx u hu
    · exact p1 u hu
  have hall : ∀ u ∈ xsC ++ ysC, (flat u).length = Γ.size E := fun u hu => by
    rcases List.mem_append.1 hu with hu | hu
    · exact hxl u hu
    · exact hyl u hu
  have hres : ∀ (A' : Option Addr) (c' : Nat), er (.lst true (Γ.size E) A' c' (xsC ++ ysC)) = .lst true (Γ.size E) (ers xsC ++ ers ysC) := fun A' c' => by simp [er, ers_append]
  -- s is the size, or there is no room
  have hsc : c ≠ 0 → s = Γ.size E := fun hc => by
    rcases hs with ⟨hs, _⟩ | hs
    · exact absurd hs (k3 rfl hc).1
    · exact hs
  by_cases hroom : xsC.length + ysC.length ≤ c
  · by_cases hm0 : ysC.length = 0
    · -- nothing comes
      have hy0 : ysC = [] := List.eq_nil_of_length_eq_zero hm0
      subst hy0
      have hrun := hrunof (.slice A (xsC.length + 0) c) w (run_app_room hu h1 (news := []) run_first_none (by simpa using hroom) (by cases A <;> simp [storeCells]))
      have hG2 : Good K w0 Z Sc' (.lst true (Γ.size E) A c xsC :: L) a w := by
        refine hG.beside ?_ (Fits.of_sublist ?_) ?_
        · simp only [OkL, Ok]
          have hL := ((okL_append _ _).1 hG.ok).2.2.2
          exact ⟨⟨⟨k1, k2, fun q hc => by have := k3 q hc; rw [hsc hc] at this; exact this⟩, hxl, by simp, k6⟩, hL⟩
        · simp only [fps, fp]
          exact List.Sublist.append (List.Sublist.refl _) (List.sublist_append_right _ _)
        · intro u hu
          rcases List.mem_cons.1 hu with rfl | hu
          · simpa using hnr A c
          · exact hG.nr u (by simp [hu])
      refine es_value hrun (Sc' := cput o.dst (.lst true (Γ.size E) A c xsC) Sc') ?_ ?_
      · rw [er_cput, e2]; simp [er, ers]
      · have := hG2.put o.dst
        simpa [val, val1, flat] using this
    · have hc0 : c ≠ 0 := by omega
      obtain ⟨hsn, ad, cur, E', rfl, hsp, hb, hcm, hrm⟩ := k3 rfl hc0
      obtain ⟨b, hB, hcb⟩ := p4.resolve_left hm0
      subst hB
      have hse := hsc hc0
      subst hse
      have hf : (Builtin.firstCells i.size ysC.length (.slice (some b) ysC.length cb)).run P w = .ok (flats ysC).toArray w :=
        run_firstCells_some w i.size ysC.length b ysC.length cb (flats ysC) (by rw [hylen, hsz]) hcb
      have hfit : ad.off + xsC.length * Γ.size E + (flats ysC).length ≤ cur.size := by
        rw [hylen, Nat.add_assoc, ← Nat.add_mul]
        exact Nat.le_trans (Nat.add_le_add_left (Nat.mul_le_mul_right _ hroom) _) hrm
      have had : ad.add (xsC.length * i.size) = ⟨ad.block, ad.off + xsC.length * Γ.size E, none⟩ := by rw [add_eq hsp, hsz]
      obtain ⟨hst, hnew⟩ := stored_setRow (w := w) (vs := flats ysC) hb hfit
      have hone : ∀ u ∈ flats ysC, u.oneCell' = true := fun u hu => Pl.one (.agg ysC) (by simpa only [Pl] using p1) u (by simpa [flat] using hu)
      have hcell := run_storeCells_at P ad.block (ad.off + xsC.length * Γ.size E) E' (flats ysC) 0 cur w hb (by simpa using hfit) hone
      simp only [Nat.add_zero] at hcell
      obtain ⟨W, hW⟩ : ∃ W, W = w.setRow ad.block (cur.toList.take (ad.off + xsC.length * Γ.size E) ++ flats ysC ++ cur.toList.drop (ad.off + xsC.length * Γ.size E + (flats ysC).length)).toArray := ⟨_, rfl⟩
      rw [← hW] at hst hnew hcell
      have hrun := hrunof _ W (run_app_room hu h1 (news := flats ysC) hf hroom (by simp only; rw [had]; exact hcell))
      have hbfp : ad.block ∈ fp (.lst true (Γ.size E) (some ad) c xsC) := by simp [fp, hc0]
      have hndd : (fp (.lst true (Γ.size E) (some ad) c xsC)).Nodup := by
        have := hG.nodup
        simp only [fps_append, fps] at this
        exact (List.nodup_append.1 (List.nodup_append.1 this).2.1).1
      have hnx : ∀ k ∈ fps xsC, k ≠ ad.block := fun k hk e => by
        simp only [fp, hc0, or_false, Bool.true_eq_false, if_false, Option.map_some, Option.toList_some, List.singleton_append, List.nodup_cons] at hndd
        exact hndd.1 (e ▸ hk)
      have hnZ : ∀ k, Z k → k ≠ ad.block := fun k hk e => hG.apart ad.block (by simp [fps_append, fps, hbfp]) (e ▸ hk)
      have hny : ∀ k ∈ fps ysC, k ≠ ad.block := fun k hk e => by
        have := hG.nodup
        simp only [fps_append, fps] at this
        refine (List.nodup_append.1 (List.nodup_append.1 this).2.1).2.2 ad.block hbfp k ?_ e.symm
        simp [fp, hk]
      have hGa : Good K w0 Z Sc' (.agg [.lst true (Γ.size E) (some ad) c xsC, .lst true s' (some b) cb ysC] :: L) a w := by
        refine hG.beside ?_ (Fits.of_sublist ?_) ?_
        · have hL := ((okL_append _ _).1 hG.ok).2.2.2
          simp only [OkL]
          exact ⟨by rw [Ok]; simp only [OkL]; exact ⟨hdok', hdoky', trivial⟩, hL⟩
        · simp [fps, fp]
        · intro u hu
          rcases List.mem_cons.1 hu with rfl | hu
          · simp only [NR, Pl, PlL]; exact ⟨hplx, p1, trivial⟩
          · exact hG.nr u (by simp [hu])
      have hbfp2 : ad.block ∈ fp (.agg [.lst true (Γ.size E) (some ad) c xsC, .lst true s' (some b) cb ysC]) := by simp [fp, fps, hc0]
      have hG2 := hGa.inplace (y' := .lst true (Γ.size E) (some ad) c (xsC ++ ysC)) (w' := W) hbfp2 (fun k hk => hst.other k hk) (by rw [hW]; exact size_setRow _ _ _) (by rw [hW]; rfl) (by rw [hW]; rfl) (by rw [hW]; rfl) ?_ ?_ (hnr _ _)
      · refine es_value hrun (Sc' := cput o.dst (.lst true (Γ.size E) (some ad) c (xsC ++ ysC)) Sc') ?_ ?_
        · rw [er_cput, e2, hres]
        · have := hG2.put o.dst
          simpa [val, val1, flat] using this
      · simp only [Ok]
        refine ⟨⟨by simpa using hroom, .inr ⟨ad, rfl, hsp, ?_, by simp⟩, fun _ _ => ?_⟩, hall, by simp, ?_⟩
        · rw [flats_append, cellsAt_append hsp]
          refine ⟨?_, ?_⟩
          · by_cases hn0 : xsC.length = 0
            · have : xsC = [] := List.eq_nil_of_length_eq_zero hn0
              subst this
              intro j u hj; simp [flats] at hj
            · obtain ⟨ad', q1, q2, q3, _⟩ := k2.resolve_left hn0
              simp only [Option.some.injEq] at q1
              subst q1
              exact hst.cellsAt hsp q3 fun _ => .inl (by rw [hxlen]; exact Nat.le_refl _)
          · rw [hxlen, add_eq hsp]; exact hnew
        · obtain ⟨cur', c1, c2⟩ := hst.hit cur E' hb
          exact ⟨hs0, ad, cur', E', rfl, hsp, c1, hcm, by rw [c2]; exact hrm⟩
        · rw [okL_append]
          exact ⟨OkL.congr (fun _ h => h) (fun k hk => hst.other k (hnZ k hk)) _ (fun k hk => hst.other k (hnx k hk)) k6, OkL.congr (fun _ h => h) (fun k hk => hst.other k (hnZ k hk)) _ (fun k hk => hst.other k (hny k hk)) p3⟩
      · refine Fits.of_sublist ?_
        simp only [fp, fps, fps_append, hc0, or_false, Bool.true_eq_false, if_false, List.append_nil, List.append_assoc]
        exact List.Sublist.append (List.Sublist.refl _) (List.Sublist.append (List.Sublist.refl _) (List.sublist_append_right _ _))
  · -- a new block
    have hm0 : ysC.length ≠ 0 := by omega
    obtain ⟨b, hB, hcb⟩ := p4.resolve_left hm0
    subst hB
    have hgc := grownCap_ge w (xsC.length + ysC.length) c E
    have hgm := grownCap_le_maxLen w (xsC.length + ysC.length) c E (by unfold maxLen; omega)
    obtain ⟨g, hg⟩ : ∃ g, g = grownCap w (xsC.length + ysC.length) c E := ⟨_, rfl⟩
    have hrun : (Builtin.append_ #[T, T] o.type #[.slice A xsC.length c, .slice (some b) ysC.length cb]).run P w =
        .ok (.slice (some ⟨w.heap.size, 0, none⟩) (xsC.length + ysC.length) g) (w.drew.alloc (.cells ((flats xsC).toArray ++ (flats ysC).toArray ++ Builtin.zeroCells v.cells (g - (xsC.length + ysC.length))) E)) := by
      rw [hg]
      have hfits := growslice_fits (need := xsC.length + ysC.length) (old := c) (bytes := i.bytes) (by omega) (by rw [hby]; exact hbnd)
      cases A with
      | some ad =>
        have holds : ∀ j u, (flats xsC)[j]? = some u → w.cell? (ad.add j) = some u := by
          rcases k2 with hn0 | ⟨ad', q1, q2, q3, _⟩
          · have : xsC = [] := List.eq_nil_of_length_eq_zero hn0
            subst this
            intro j u hj; simp [flats] at hj
          · simp only [Option.some.injEq] at q1
            subst q1
            exact q3
        exact run_append_grow (P := P) w T o.type E i v hu h1 h2 ad xsC.length c (flats xsC) (by rw [hxlen, hsz]) holds b ysC.length cb (flats ysC) (by rw [hylen, hsz]) hcb (by omega) (by omega) hfits
      | none =>
        have hc0 : c = 0 := by
          by_cases hc : c = 0
          · exact hc
          · obtain ⟨_, ad, _, _, q, _⟩ := k3 rfl hc; cases q
        have hn0 : xsC.length = 0 := by omega
        have : xsC = [] := List.eq_nil_of_length_eq_zero hn0
        subst this; subst hc0
        have hr := run_append_nil (P := P) w T o.type E i v hu h1 h2 b ysC.length cb (flats ysC) (by rw [hylen, hsz]) hcb (by omega) (by have := hm; simp only [List.length_nil, Nat.zero_add] at this; omega) (by
          have := hbnd; rw [hby]; simp only [List.length_nil, Nat.zero_add] at this; omega)
        simpa [flats] using hr
    have hrun' := hrunof _ _ hrun
    rw [← hg] at hgc hgm
    have hGd : Good K w0 Z Sc' ([.lst true s A c xsC, .lst true s' (some b) cb ysC] ++ L) a w.drew := hG.world (fun _ _ => rfl) (Nat.le_refl _) rfl rfl rfl
    have hG2 := hGd.block (M := [.lst true s A c xsC, .lst true s' (some b) cb ysC]) (L := L) (c := .lst true (Γ.size E) (some ⟨w.heap.size, 0, none⟩) g (xsC ++ ysC)) (o := .cells ((flats xsC).toArray ++ (flats ysC).toArray ++ Builtin.zeroCells v.cells (g - (xsC.length + ysC.length))) E) ?_ ?_ (hnr _ _)
    · refine es_value hrun' (Sc' := cput o.dst (.lst true (Γ.size E) (some ⟨w.heap.size, 0, none⟩) g (xsC ++ ysC)) Sc') ?_ ?_
      · rw [er_cput, e2, hres]
      · have := hG2.put o.dst
        simpa [val, val1, flat] using this
    · have hg0 : g ≠ 0 := by omega
      simp only [fp, fps_append, fps, List.append_nil, hg0, or_false, Bool.true_eq_false, if_false, Option.map_some, Option.toList_some, List.singleton_append]
      refine Fits.of_sublist ?_
      refine List.Sublist.cons_cons _ ?_
      exact List.Sublist.append (List.sublist_append_right _ _) (List.sublist_append_right _ _)
    · have hold : ∀ k, k < w.heap.size → (w.drew.alloc (.cells ((flats xsC).toArray ++ (flats ysC).toArray ++ Builtin.zeroCells v.cells (g - (xsC.length + ysC.length))) E)).heap[k]? = w.heap[k]? := fun k hk => heap_alloc_old w.drew _ k hk
      have hnewb := heap_alloc_new w.drew (.cells ((flats xsC).toArray ++ (flats ysC).toArray ++ Builtin.zeroCells v.cells (g - (xsC.length + ysC.length))) E)
      simp only [Ok]
      refine ⟨⟨by simpa using hgc, .inr ⟨_, rfl, rfl, ?_, by simp⟩, fun _ _ => ⟨hs0, _, _, _, rfl, rfl, hnewb, hgm, ?_⟩⟩, hall, by simp, ?_⟩
      · rw [cellsAt_iff rfl]
        intro j u hj
        have hj' := (List.getElem?_eq_some_iff.1 hj).1
        have hc : (w.drew.alloc (.cells ((flats xsC).toArray ++ (flats ysC).toArray ++ Builtin.zeroCells v.cells (g - (xsC.length + ysC.length))) E)).cell? ⟨w.heap.size, 0 + j, none⟩ =
            ((flats xsC).toArray ++ (flats ysC).toArray ++ Builtin.zeroCells v.cells (g - (xsC.length + ysC.length)))[0 + j]? := by
          simp only [World.cell?]
          have : (w.drew.alloc (.cells ((flats xsC).toArray ++ (flats ysC).toArray ++ Builtin.zeroCells v.cells (g - (xsC.length + ysC.length))) E)).heap[w.heap.size]? = _ := hnewb
          rw [this]
          simp
        rw [hc, Nat.zero_add]
        rw [flats_append] at hj hj'
        rw [Array.getElem?_append_left (by simpa using hj')]
        simpa using hj
      · simp only [Array.size_append, List.size_toArray, size_zeroCells, h4, hsz, hxlen, hylen, ← Nat.add_mul, Nat.zero_add]
        exact Nat.mul_le_mul_right _ (by omega)
      · rw [okL_append]
        have hlt : ∀ k, (k ∈ fps xsC ∨ Z k) → k < w.heap.size := fun k hk => hG.lt k (hk.imp (fun hk => by simp [fps_append, fps, fp, hk]) id)
        exact ⟨OkL.congr (fun _ h => h) (fun k hk => hold k (hlt k (.inr hk))) _ (fun k hk => hold k (hlt k (.inl hk))) k6, OkL.congr (fun _ h => h) (fun k hk => hold k (hlt k (.inr hk))) _ (fun k hk => hold k (hG.lt k (.inl (by simp [fps_append, fps, fp, hk])))) p3⟩

variable {S : List AV} {ops : Array Oper} {l : List Oper} {o : Oper} {N : List AV → Prop}
theorem al_append2 (hT : TabOk P Γ) {T E : Nat} {x y : Operand} {z dv ev : AV} {s s' : Nat} {xs ys S1 S' S'' : List AV} (hg : gchk ops S o = some true) (ho : o.op = .call { callee := .builtin .append, args := #[x, y], argTypes := #[T, T] }) (hk : Γ.kind T = .sl E) (hE : Γ.kind E ≠ .no)
    (hz : Γ.zero E = some z) (hs0 : Γ.size E ≠ 0) (hx : ard S x = some dv) (ht : atake S dv = some (.lst true s xs, S1)) (hs : (s = 0 ∧ xs = []) ∨ s = Γ.size E)
    (hy : ard S y = some ev) (hno : ((arefs dv).any fun rp => hitA rp.1 rp.2 ev) = false) (hty : atake S1 ev = some (.lst true s' ys, S')) (hs2 : (s' = 0 ∧ ys = []) ∨ s' = Γ.size E)
    (hm : xs.length + ys.length ≤ 9223372036854775807) (hbnd : (xs.length + ys.length) * Γ.bytes E ≤ 140737488355328) (hp : aput o.dst (.lst true (Γ.size E) (xs ++ ys)) S' = S'') (h : AL P false ops l S'' N) : AL P false ops (o :: l) S N := by
  subst hp
  exact al_op hg (es_AO fun K w0 Z Sc a w e hG => by subst e; exact append2_sound hT hG ho hk hE hz hs0 hx ht hs hy hno hty hs2 hm hbnd) h
theorem as_append2 (hT : TabOk P Γ) {T E : Nat} {x y : Operand} {z dv ev : AV} {s s' : Nat} {xs ys S1 S' S'' : List AV} (hg : gchk ops S o = some true) (ho : o.op = .call { callee := .builtin .append, args := #[x, y], argTypes := #[T, T] }) (hk : Γ.kind T = .sl E) (hE : Γ.kind E ≠ .no)
    (hz : Γ.zero E = some z) (hs0 : Γ.size E ≠ 0) (hx : ard S x = some dv) (ht : atake S dv = some (.lst true s xs, S1)) (hs : (s = 0 ∧ xs = []) ∨ s = Γ.size E)
    (hy : ard S y = some ev) (hno : ((arefs dv).any fun rp => hitA rp.1 rp.2 ev) = false) (hty : atake S1 ev = some (.lst true s' ys, S')) (hs2 : (s' = 0 ∧ ys = []) ∨ s' = Γ.size E)
    (hm : xs.length + ys.length ≤ 9223372036854775807) (hbnd : (xs.length + ys.length) * Γ.bytes E ≤ 140737488355328) (hp : aput o.dst (.lst true (Γ.size E) (xs ++ ys)) S' = S'') : AS P ops o S S'' := by
  subst hp
  exact .inl ⟨hg, es_AO fun K w0 Z Sc a w e hG => by subst e; exact append2_sound hT hG ho hk hE hz hs0 hx ht hs hy hno hty hs2 hm hbnd⟩
end
theorem hitA_cond {r : Nat} {p : List Nat} {b : Bool} {x y : AV} : hitA r p (bif b then x else y) = bif b then hitA r p x else hitA r p y := by cases b <;> rfl
theorem menA_cond {d : Nat} {b : Bool} {x y : AV} : menA d (bif b then x else y) = bif b then menA d x else menA d y := by cases b <;> rfl
theorem cond_selfA {α : Type} {b : Bool} {x : α} : (bif b then x else x) = x := by cases b <;> rfl
attribute [go_sem] hitA_cond menA_cond cond_selfA
theorem take_mapA {α : Type} {f : α → AV} {xs : List α} : List.take xs.length (List.map f xs) = List.map f xs := List.take_of_length_le (by simp)
attribute [go_sem] take_mapA
end Go.Bv

/-! A call that is handed its first argument, as a step of a drawn region. -/
namespace Go.Bv
open Go Go.RowKit
set_option linter.unusedSimpArgs false
set_option linter.unusedVariables false
section
variable {P : Program} {ops : Array Oper} {o : Oper} {S : List AV}
theorem as_mv {f : Nat} {args : Array Operand} {ats : Array TypeId} {vs ps S1 S' : List AV} {v v' r : AV} (hg : gchk ops S o = some true) (ho : o.op = .call { callee := .value (.func f), args, argTypes := ats })
    (hf : ∀ vs w, (callFunc f vs).run P w = .ok (.enter f vs) w) (hvs : ards S args.toList = some (v :: vs)) (hno : ((arefs v).any fun rp => hitAs rp.1 rp.2 vs) = false) (ht : atake S v = some (v', S1)) (hps : asnaps S1 vs = some ps)
    (hS : Sound P f (v' :: ps) r) (hn : noSh r = true) (hp : aput o.dst r S1 = S') : AS P ops o S S' := by
  subst hp
  exact .inl ⟨hg, call_mv ho hf hvs hno ht hps hS hn⟩
end
end Go.Bv

/-! Which of two texts comes first. -/
namespace Go.Bv
open Go Go.RowKit
set_option linter.unusedSimpArgs false
set_option linter.unusedVariables false
section
variable {K : Nat → Prop} {w0 : World} {Z : Nat → Prop} {Sc L : List CV} {a : Act} {w : World} {P : Program} {Γ : Tab} {S : List AV} {o : Oper} {ops : Array Oper} {l : List Oper} {N : List AV → Prop}
def ltS (x y : ByteArray) : Bool := Go.Op.bytesLess x.toList y.toList
theorem slt_sound (h : Good K w0 Z Sc L a w) {T T' : TypeId} {x y : Operand} (ho : o.op = .binOp .lss T x y T') {s t : ByteArray} (hx : ard (ers Sc) x = some (.str s)) (hy : ard (ers Sc) y = some (.str t)) :
    ES P K w0 Z L a w o (aput o.dst (.bool (ltS s t)) (ers Sc)) := by
  obtain ⟨c, hc, hval, _, _⟩ := h.rd hx
  obtain ⟨c', hc', hval', _, _⟩ := h.rd hy
  have := er_str hc; subst this
  have := er_str hc'; subst this
  have hrun : (execOp a.eval o).run P w = .ok (.value (.bool (ltS s t))) w := by
    unfold execOp
    have hg : ∀ w, (eqGuard .lss T x y (.string s) (.string t)).run P w = .ok () w := fun w => rfl
    simp only [ho, ← hval, ← hval', val_str, Sem.run_bind, hg, Result.andThen_ok, binOp, Go.Op.stringOp, Sem.run_pure, ltS]
  refine es_value hrun (Sc' := cput o.dst (.bool (ltS s t)) Sc) (by rw [er_cput]; simp [er]) ?_
  have := (h.add (c := .bool (ltS s t)) (by simp [Ok]) (by simp [fp]) (by simp [NR, Pl])).put o.dst
  simpa [val, val1, flat] using this
theorem al_slt {T T' : TypeId} {x y : Operand} {s t : ByteArray} {S' : List AV} (hg : gchk ops S o = some true) (ho : o.op = .binOp .lss T x y T') (hx : ard S x = some (.str s)) (hy : ard S y = some (.str t))
    (hp : aput o.dst (.bool (ltS s t)) S = S') (h : AL P false ops l S' N) : AL P false ops (o :: l) S N := by
  subst hp
  exact al_op hg (es_AO fun K w0 Z Sc a w e hG => by subst e; exact slt_sound hG ho hx hy) h
end
end Go.Bv

/-! The steps of a walk, each with what it wants filled in. -/
namespace Go.Bv
open Go Go.RowKit
set_option linter.unusedSimpArgs false
set_option linter.unusedVariables false

/-- A function's contract: what it says, and that its number is called. -/
class Con (P : Program) (f : Nat) (T : outParam Prop) : Type where
  call : ∀ vs w, (callFunc f vs).run P w = .ok (.enter f vs) w
  out : T
/-- The same, of a function that is handed its first argument. -/
class ConM (P : Program) (f : Nat) (T : outParam Prop) : Type where
  call : ∀ vs w, (callFunc f vs).run P w = .ok (.enter f vs) w
  out : T
/-- The same, of a function that is lent a place, its t-th argument. -/
class ConL (P : Program) (f : Nat) (t : outParam Nat) (T : outParam Prop) : Type where
  call : ∀ vs w, (callFunc f vs).run P w = .ok (.enter f vs) w
  out : T
/-- The same, of a function that is handed a pointer to a box. -/
class ConB (P : Program) (f : Nat) (T : outParam Prop) : Type where
  call : ∀ vs w, (callFunc f vs).run P w = .ok (.enter f vs) w
  out : T
theorem use_c {P : Program} {f : Nat} {T : Prop} {args : List AV} {r : AV} [i : Con P f T] (h : T → Sound P f args r) : Sound P f args r := h i.out
theorem use_m {P : Program} {f : Nat} {T : Prop} {args : List AV} {r : AV} [i : ConM P f T] (h : T → Sound P f args r) : Sound P f args r := h i.out
theorem use_b {P : Program} {f : Nat} {T : Prop} {args : List AV} {k : Nat} {rv v : AV} [i : ConB P f T] (h : T → SoundB P f args k rv v) : SoundB P f args k rv v := h i.out
section
variable {P : Program} {Γ : Tab} {S S' S1 S'' : List AV} {ops : Array Oper} {l : List Oper} {o : Oper} {N : List AV → Prop} {f : Nat} {args : Array Operand} {ats : Array TypeId} {r rv v : AV}

theorem o_call {vs : List AV} (ho : o.op = .call { callee := .value (.func f), args, argTypes := ats }) (hf : ∀ vs w, (callFunc f vs).run P w = .ok (.enter f vs) w) (hvs : ards S args.toList = some vs) (hpl : plAs vs = true) (hS : Sound P f vs r) (hp : aput o.dst r S = S') : AO P o S S' := hp ▸ call_AO ho hf hvs hpl hS
theorem o_snap {vs ps : List AV} (ho : o.op = .call { callee := .value (.func f), args, argTypes := ats }) (hf : ∀ vs w, (callFunc f vs).run P w = .ok (.enter f vs) w) (hvs : ards S args.toList = some vs) (hps : asnaps S vs = some ps) (hS : Sound P f ps r) (hn : noSh r = true) (hp : aput o.dst r S = S') : AO P o S S' := hp ▸ call_snap ho hf hvs hps hS hn
theorem o_mv {vs ps : List AV} {v v' : AV} (ho : o.op = .call { callee := .value (.func f), args, argTypes := ats }) (hf : ∀ vs w, (callFunc f vs).run P w = .ok (.enter f vs) w)
    (hvs : ards S args.toList = some (v :: vs)) (hno : ((arefs v).any fun rp => hitAs rp.1 rp.2 vs) = false) (ht : atake S v = some (v', S1)) (hps : asnaps S1 vs = some ps) (hS : Sound P f (v' :: ps) r) (hn : noSh r = true) (hp : aput o.dst r S1 = S') : AO P o S S' := hp ▸ call_mv ho hf hvs hno ht hps hS hn
theorem o_lend {vs : List AV} {r : Nat} {p : List Nat} (t : Nat) {x0 y u : AV} (ho : o.op = .call { callee := .value (.func f), args, argTypes := ats }) (hf : ∀ vs w, (callFunc f vs).run P w = .ok (.enter f vs) w)
    (hvs : ards S args.toList = some vs) (ht : vs[t]? = some u) (hr : vroot u = some (r, p)) (hx : S[r]? = some x0) (hp : plA (rootA x0) = true) (hy : aget S r p = some y) (hu : aview r p y = u) (hly : lendA y = true)
    (hpl : plAs (vs.set t y) = true) (hS : SoundM P f (vs.set t y) t rv v) (hsk : skA y v = true) (hp' : aput o.dst rv (aback S r p y v) = S') : AO P o S S' := hp' ▸ call_lend ho hf hvs (by rw [ht, hu]) hx hp hy hly hpl hS hsk
theorem o_lendB {vs : List AV} {r : Nat} {y : AV} (ho : o.op = .call { callee := .value (.func f), args, argTypes := ats }) (hf : ∀ vs w, (callFunc f vs).run P w = .ok (.enter f vs) w)
    (hvs : ards S args.toList = some (.at r [] :: vs)) (hx : S[r]? = some (.box y)) (hy : plA y = true) (hpl : plAs vs = true) (hS : SoundB P f (.box y :: vs) 0 rv (.box v)) (hv : plA v = true) (hp : aput o.dst rv (asetc S r [] v) = S') : AO P o S S' := hp ▸ call_lendB ho hf hvs hx hy hpl hS hv
theorem o_callv {x : Operand} {vs us ps : List AV} (ho : o.op = .call { callee := .value x, args, argTypes := ats }) (hx : ard S x = some (.fn f us)) (hf : ∀ vs w, (callFunc f vs).run P w = .ok (.enter f vs) w) (hna : noAgg us = true)
    (hvs : ards S args.toList = some vs) (hps : asnaps S (vs ++ us) = some ps) (hS : Sound P f ps r) (hn : noSh r = true) (hp : aput o.dst r S = S') : AO P o S S' := hp ▸ callv_snap ho hf hx hna hvs hps hS hn
theorem o_clear (hT : TabOk P Γ) {T E r lo n s : Nat} {x : Operand} {z : AV} {xs : List AV} (ho : o.op = .call { callee := .builtin .clear, args := #[x], argTypes := #[T] }) (hdst : o.dst = none) (hk : Γ.kind T = .sl E) (hz : Γ.zero E = some z)
    (hx : ard S x = some (.ref r [] lo n)) (hS : S[r]? = some (.lst true s xs)) (hsz : alen z = s) (hno : deepAny r S = false) (hp : S.set r (.lst true s (xs.take lo ++ List.replicate n z ++ xs.drop (lo + n))) = S') : AO P o S S' := hp ▸ clear_AO hT ho hdst hk hz hx hS hsz hno
theorem o_append (hT : TabOk P Γ) {T E : Nat} {x y : Operand} {z dv ev : AV} {s : Nat} {xs ys : List AV} (ho : o.op = .call { callee := .builtin .append, args := #[x, y], argTypes := #[T, T] }) (hk : Γ.kind T = .sl E) (hE : Γ.kind E ≠ .no)
    (hz : Γ.zero E = some z) (hs0 : Γ.size E ≠ 0) (hx : ard S x = some dv) (ht : atake S dv = some (.lst true s xs, S')) (hs : (s = 0 ∧ xs = []) ∨ s = Γ.size E)
    (hy : ard S y = some ev) (hel : aels S ev = some ys) (hys : ys.all (fun u => alen u == Γ.size E) = true)
    (hm : xs.length + ys.length ≤ 9223372036854775807) (hbnd : (xs.length + ys.length) * Γ.bytes E ≤ 140737488355328) (hp : aput o.dst (.lst true (Γ.size E) (xs ++ ys)) S' = S'') : AO P o S S'' := hp ▸ ao_append hT ho hk hE hz hs0 hx ht hs hy hel hys hm hbnd
theorem o_append2 (hT : TabOk P Γ) {T E : Nat} {x y : Operand} {z dv ev : AV} {s s' : Nat} {xs ys : List AV} (ho : o.op = .call { callee := .builtin .append, args := #[x, y], argTypes := #[T, T] }) (hk : Γ.kind T = .sl E) (hE : Γ.kind E ≠ .no)
    (hz : Γ.zero E = some z) (hs0 : Γ.size E ≠ 0) (hx : ard S x = some dv) (ht : atake S dv = some (.lst true s xs, S1)) (hs : (s = 0 ∧ xs = []) ∨ s = Γ.size E)
    (hy : ard S y = some ev) (hno : ((arefs dv).any fun rp => hitA rp.1 rp.2 ev) = false) (hty : atake S1 ev = some (.lst true s' ys, S')) (hs2 : (s' = 0 ∧ ys = []) ∨ s' = Γ.size E)
    (hm : xs.length + ys.length ≤ 9223372036854775807) (hbnd : (xs.length + ys.length) * Γ.bytes E ≤ 140737488355328) (hp : aput o.dst (.lst true (Γ.size E) (xs ++ ys)) S' = S'') : AO P o S S'' :=
  hp ▸ es_AO fun K w0 Z Sc a w e hG => by subst e; exact append2_sound hT hG ho hk hE hz hs0 hx ht hs hy hno hty hs2 hm hbnd
theorem o_appendz (hT : TabOk P Γ) {T I E : Nat} {x y : Operand} {ki : IntKind} {z dv : AV} {n : Nat} (ho : o.op = .call { callee := .builtin .append, args := #[x, y], argTypes := #[T, I] }) (hk : Γ.kind T = .sl E) (hI : Γ.kind I = .int ki) (hE : Γ.kind E ≠ .no)
    (hz : Γ.zero E = some z) (hs0 : Γ.size E ≠ 0) (hx : ard S x = some dv) (hn : noRoom S dv = true) (hy : ard S y = some (.int .i64 (n : Int))) (h0 : 0 < n)
    (hm : n ≤ 9223372036854775807) (hbnd : n * Γ.bytes E ≤ 140737488355328) (hp : aput o.dst (.lst true (Γ.size E) (List.replicate n z)) S = S') : AO P o S S' :=
  hp ▸ es_AO fun K w0 Z Sc a w e hG => by subst e; exact appendz_sound hT hG ho hk hI hE hz hs0 hx hn hy h0 hm hbnd
theorem o_cap0 (hT : TabOk P Γ) {T E : Nat} {x : Operand} (ho : o.op = .call { callee := .builtin .cap, args := #[x], argTypes := #[T] }) (hk : Γ.kind T = .sl E) (hx : ard S x = some v) (hn : noRoom S v = true)
    (hp : aput o.dst (.int .i64 0) S = S') : AO P o S S' := hp ▸ es_AO fun K w0 Z Sc a w e hG => by subst e; exact cap0_sound hT hG ho hk hx hn
theorem o_build (hT : TabOk P Γ) {T : Nat} {parts : Array (Nat × Operand)} {fs : List Nat} {zs vs vs' : List AV} (ho : o.op = .build T parts) (hk : Γ.kind T = .st fs) (hz : Γ.zero T = some (.agg zs))
    (hb : bldOk Γ T fs zs = true) (hvs : ards S (parts.toList.map (·.2)) = some vs) (ht : atakes S vs = some (vs', S')) (hc : bldChk zs ((parts.toList.map (·.1)).zip vs') = true)
    (hp : aput o.dst (.agg (asetAll zs ((parts.toList.map (·.1)).zip vs'))) S' = S'') : AO P o S S'' := hp ▸ ao_build hT ho hk hz hb hvs ht hc
theorem o_bslice (hT : TabOk P Γ) {T E n : Nat} {parts : Array (Nat × Operand)} {z : AV} {vs vs' : List AV} (ho : o.op = .buildSlice T n parts) (hk : Γ.kind T = .sl E) (hE : Γ.kind E ≠ .no) (hz : Γ.zero E = some z)
    (hs0 : Γ.size E ≠ 0) (hn : n * Γ.size E ≤ 16777216) (hvs : ards S (parts.toList.map (·.2)) = some vs) (ht : atakes S vs = some (vs', S')) (hc : bldChk (List.replicate n z) ((parts.toList.map (·.1)).zip vs') = true)
    (hp : aput o.dst (.lst true (Γ.size E) (asetAll (List.replicate n z) ((parts.toList.map (·.1)).zip vs'))) S' = S'') : AO P o S S'' := hp ▸ ao_buildSlice hT ho hk hE hz hs0 hn hvs ht hc
theorem o_bstr (hT : TabOk P Γ) {T D E : Nat} {x : Operand} {ys : List AV} (ho : o.op = .convert T D x) (hk : Γ.kind T = .sl E) (hE : Γ.kind E = .int .u8) (hD : Γ.kind D = .str) (hx : ard S x = some v) (hel : aels S v = some ys)
    (hby : ys.all isByte = true) (hp : aput o.dst (.str (bytesOf ys)) S = S') : AO P o S S' := hp ▸ ao_bstr hT ho hk hE hD hx hel hby
theorem o_slt {T T' : TypeId} {x y : Operand} {s t : ByteArray} (ho : o.op = .binOp .lss T x y T') (hx : ard S x = some (.str s)) (hy : ard S y = some (.str t)) (hp : aput o.dst (.bool (ltS s t)) S = S') : AO P o S S' :=
  hp ▸ es_AO fun K w0 Z Sc a w e hG => by subst e; exact slt_sound hG ho hx hy
theorem o_movetup {t : Nat} {vs : List AV} (ho : o.op = .move (.tmp t)) (ht : S[t]? = some (.tup vs)) (hp : aput o.dst (.tup vs) (S.set t .undef) = S') : AO P o S S' := hp ▸ ao_movetup ho ht
theorem o_anil (hT : TabOk P Γ) {E : Nat} (ho : o.op = .assign (.const (.slice none 0 0))) (hk : Γ.kind o.type = .sl E) (hp : aput o.dst (.lst true (Γ.size E) []) S = S') : AO P o S S' := by
  subst hp
  refine es_AO fun K w0 Z Sc a w e hG => ?_
  subst e
  have hrun : (execOp a.eval o).run P w = .ok (.value (.slice none 0 0)) w := by
    unfold execOp
    simp [ho, Act.eval]
  refine es_value hrun (Sc' := cput o.dst (.lst true (Γ.size E) none 0 []) Sc) (by rw [er_cput]; simp [er, ers]) ?_
  have := (hG.add (c := .lst true (Γ.size E) none 0 []) (by simp [Ok, OkL, HdrOk, flats]) (by simp [fp, fps]) (by simp [NR, Pl, PlL])).put o.dst
  simpa [val, val1, flat] using this
theorem o_snil (hT : TabOk P Γ) {T E r : Nat} {x : Operand} {p : List Nat} {S2 : List AV} {x0 : AV} (ho : o.op = .store T x (.const (.slice none 0 0))) (hk : Γ.kind T = .sl E) (hx : ard S x = some (.at r p)) (hv : ast Γ true S o = some S1)
    (h0 : S1[r]? = some x0) (hp : plA (rootA x0) = true) (hy : aget S1 r p = some (.lst true 0 [])) (hS : asetc S1 r p (.lst true (Γ.size E) []) = S2) : AO P o S S2 :=
  hS ▸ ao_tag (ast_AO hT hv) fun K w0 Z0 a w hA => hA.tag (Γ.size E) h0 hp hy
theorem o_make (hT : TabOk P Γ) {T E : Nat} {x y : Operand} {z : AV} {k1 k2 : IntKind} {n m : Nat} (ho : o.op = .makeSlice T x y) (hk : Γ.kind T = .sl E) (hz : Γ.zero E = some z) (hE : Γ.kind E ≠ .no)
    (hx : ard S x = some (.int k1 (n : Int))) (hy : ard S y = some (.int k2 (m : Int))) (hnm : n ≤ m) (hE0 : Γ.size E ≠ 0) (hb : Γ.bytes E * m ≤ 281474976710656) (hm : m ≤ maxLen) (hp : aput o.dst (.lst true (Γ.size E) (List.replicate n z)) S = S') : AO P o S S' :=
  hp ▸ ao_make hT ho hk hz hE hx hy hnm hE0 hb hm
theorem o_boxv {T : Nat} {x : Operand} {vs : List AV} (ho : o.op = .box T x) (hx : ard S x = some (.agg vs)) (hp : aput o.dst (.ip (.agg vs)) S = S') : AO P o S S' := hp ▸ ao_boxv ho hx
theorem o_s (hT : TabOk P Γ) (keep : Bool) (hv : ast Γ keep S o = some S') : AO P o S S' := ast_AO hT hv
theorem o_q (hT : TabOk P Γ) (hv : qv Γ S o = some v) (hp : aput o.dst v S = S') : AO P o S S' := hp ▸ aq_AO hT hv

def opTag : Op → Nat
  | .call c => (match c.callee with | .value (.func _) => 1 | .value _ => 2 | .builtin .len => 0 | .builtin _ => 3 | _ => 2)
  | .build _ _ => 4 | .buildSlice _ _ _ => 5 | .convert _ _ _ => 6 | .binOp _ _ _ _ _ => 7 | .move _ => 8 | .assign _ => 9 | .store _ _ _ => 10 | .makeSlice _ _ _ => 11
  | .box _ _ => 12 | .alloc _ => 12 | .extract _ _ => 12 | .nilCheck _ => 12 | _ => 0
theorem tg (n : Nat) (_ : opTag o.op = n) (k : AO P o S S') : AO P o S S' := k
/-- Operations whose rule does not ask what becomes of an assigned list. -/
theorem ao1 (h : AO P o S S' := by
  first
  | exact tg 8 (by rfl) (by first
     | exact o_q hT (by simp only [go_sem, *]; first | done | with_reducible rfl) (by simp only [go_sem]; first | done | with_reducible rfl)
     | exact o_movetup (by rfl) (by simp only [go_sem, *]; first | done | with_reducible rfl) (by simp only [go_sem]; first | done | with_reducible rfl)
     | fail)
  | exact tg 1 (by rfl) (by first
     | exact o_mv (by rfl) (by exact ConM.call) (by simp only [go_sem, *]; first | done | with_reducible rfl) (by simp only [go_sem, *]; first | done | fail) (by simp only [go_sem, *]; first | done | with_reducible rfl) (by simp only [go_sem, *]; first | done | with_reducible rfl) (by first | assumption | (((with_reducible apply use_m); intro hcon; (with_reducible apply hcon) <;> first | assumption | rfl | exact Kept.out (by assumption)); first | done | fail) | fail) (by simp only [go_sem, *]; first | done | fail) (by simp only [go_sem]; first | done | with_reducible rfl)
     | exact o_call (by rfl) (by exact Con.call) (by simp only [go_sem, *]; first | done | with_reducible rfl) (by simp only [go_sem, *]; first | done | fail) (by first | assumption | (((with_reducible apply use_c); intro hcon; (with_reducible apply hcon) <;> first | assumption | rfl | exact Kept.out (by assumption)); first | done | fail) | fail) (by simp only [go_sem]; first | done | with_reducible rfl)
     | exact o_snap (by rfl) (by exact Con.call) (by simp only [go_sem, *]; first | done | with_reducible rfl) (by simp only [go_sem, *]; first | done | with_reducible rfl) (by first | assumption | (((with_reducible apply use_c); intro hcon; (with_reducible apply hcon) <;> first | assumption | rfl | exact Kept.out (by assumption)); first | done | fail) | fail) (by simp only [go_sem, *]; first | done | fail) (by simp only [go_sem]; first | done | with_reducible rfl)
     | exact o_lendB (by rfl) (by exact ConB.call) (by simp only [go_sem, *]; first | done | with_reducible rfl) (by simp only [go_sem]; first | done | with_reducible rfl) (by simp only [go_sem, *]; first | done | fail) (by simp only [go_sem, *]; first | done | fail) (by first | assumption | (((with_reducible apply use_b); intro hcon; (with_reducible apply hcon) <;> first | assumption | rfl | exact Kept.out (by assumption)); first | done | fail) | fail) (by simp only [go_sem, *]; first | done | fail) (by simp only [go_sem, *]; first | done | with_reducible rfl)
     | fail)
  | exact tg 3 (by rfl) (by first
     | exact o_append hT (by rfl) (by simp only [go_sem]; first | done | with_reducible rfl) (by simp only [go_sem]; first | done | fail) (by simp only [go_sem]; first | done | with_reducible rfl) (by simp only [go_sem]; first | done | fail) (by simp only [go_sem, *]; first | done | with_reducible rfl) (by simp only [go_sem, *]; first | done | with_reducible rfl) (by simp only [go_sem, *]; first | done | fail) (by simp only [go_sem, *]; first | done | with_reducible rfl) (by simp only [go_sem, *]; first | done | with_reducible rfl) (by simp only [go_sem, *]; first | done | fail) (by simp only [go_sem]; first | done | omega) (by simp only [go_sem]; first | done | omega) (by simp only [go_sem]; first | done | with_reducible rfl)
     | exact o_append2 hT (by rfl) (by simp only [go_sem]; first | done | with_reducible rfl) (by simp only [go_sem]; first | done | fail) (by simp only [go_sem]; first | done | with_reducible rfl) (by simp only [go_sem]; first | done | fail) (by simp only [go_sem, *]; first | done | with_reducible rfl) (by simp only [go_sem, *]; first | done | with_reducible rfl) (by simp only [go_sem, *]; first | done | fail) (by simp only [go_sem, *]; first | done | with_reducible rfl) (by simp only [go_sem, *]; first | done | fail) (by simp only [go_sem, *]; first | done | with_reducible rfl) (by simp only [go_sem, *]; first | done | fail) (by simp only [go_sem]; first | done | omega) (by simp only [go_sem]; first | done | omega) (by simp only [go_sem]; first | done | with_reducible rfl)
     | exact o_appendz hT (by rfl) (by simp only [go_sem]; first | done | with_reducible rfl) (by simp only [go_sem]; first | done | with_reducible rfl) (by simp only [go_sem]; first | done | fail) (by simp only [go_sem]; first | done | with_reducible rfl) (by simp only [go_sem]; first | done | fail) (by simp only [go_sem, *]; first | done | with_reducible rfl) (by simp only [go_sem, *]; first | done | fail) (by simp only [go_sem, *]; first | done | with_reducible rfl) (by first | omega | (simp only [decide_eq_true_eq] at *; omega)) (by omega) (by simp only [go_sem]; first | done | omega) (by simp only [go_sem]; first | done | with_reducible rfl)
     | exact o_cap0 hT (by rfl) (by simp only [go_sem]; first | done | with_reducible rfl) (by simp only [go_sem, *]; first | done | with_reducible rfl) (by simp only [go_sem, *]; first | done | fail) (by simp only [go_sem]; first | done | with_reducible rfl)
     | exact o_clear hT (by rfl) (by rfl) (by simp only [go_sem]; first | done | with_reducible rfl) (by simp only [go_sem]; first | done | with_reducible rfl) (by simp only [go_sem, *]; first | done | with_reducible rfl) (by simp only [go_sem, *]; first | done | with_reducible rfl) (by simp only [go_sem]; first | done | fail) (by simp only [go_sem, *]; first | done | fail) (by simp only [go_sem]; first | done | with_reducible rfl)
     | exact o_q hT (by simp only [go_sem, *]; first | done | with_reducible rfl) (by simp only [go_sem]; first | done | with_reducible rfl)
     | fail)
  | exact tg 4 (by rfl) (by first
     | exact o_build hT (by rfl) (by simp only [go_sem]; first | done | with_reducible rfl) (by simp only [go_sem]; first | done | with_reducible rfl) (by simp only [go_sem, bldOk, List.sum_cons, List.sum_nil]; first | done | decide) (by simp only [go_sem, *]; first | done | with_reducible rfl) (by simp only [go_sem, *]; first | done | with_reducible rfl) (by simp only [go_sem]; first | done | fail) (by simp only [go_sem]; first | done | with_reducible rfl)
     | fail)
  | exact tg 5 (by rfl) (by first
     | exact o_bslice hT (by rfl) (by simp only [go_sem]; first | done | with_reducible rfl) (by simp only [go_sem]; first | done | fail) (by simp only [go_sem]; first | done | with_reducible rfl) (by simp only [go_sem]; first | done | fail) (by simp only [go_sem]; first | done | omega) (by simp only [go_sem, *]; first | done | with_reducible rfl) (by simp only [go_sem, *]; first | done | with_reducible rfl) (by simp only [go_sem]; first | done | fail) (by simp only [go_sem]; first | done | with_reducible rfl)
     | fail)
  | exact tg 11 (by rfl) (by first
     | exact o_make hT (by rfl) (by simp only [go_sem]; first | done | with_reducible rfl) (by simp only [go_sem]; first | done | with_reducible rfl) (by simp only [go_sem]; first | done | fail) (by simp only [go_sem, *]; first | done | with_reducible rfl) (by simp only [go_sem, *]; first | done | with_reducible rfl) (by exact Nat.le_refl _) (by simp only [go_sem]; first | done | fail) (by simp only [go_sem]; first | done | omega) (by unfold maxLen; first | done | omega) (by simp only [go_sem]; first | done | with_reducible rfl)
     | fail)
  | exact tg 2 (by rfl) (by first
     | exact o_callv (by rfl) (by simp only [go_sem, *]; first | done | with_reducible rfl) (by assumption) (by assumption) (by simp only [go_sem, *]; first | done | with_reducible rfl) (by simp only [go_sem, *]; first | done | with_reducible rfl) (by assumption) (by simp only [go_sem]; first | done | fail) (by simp only [go_sem]; first | done | with_reducible rfl)
     | fail)
  | fail) : AO P o S S' := h
theorem ao (h : AO P o S S' := by
  first
  | exact tg 0 (by rfl) (by first
     | exact o_q hT (by simp only [go_sem, *]; first | done | with_reducible rfl) (by simp only [go_sem]; first | done | with_reducible rfl)
     | exact o_s hT true (by simp only [go_sem, *]; first | done | with_reducible rfl)
     | fail)
  | exact tg 7 (by rfl) (by first
     | exact o_q hT (by simp only [go_sem, *]; first | done | with_reducible rfl) (by simp only [go_sem]; first | done | with_reducible rfl)
     | exact o_slt (by rfl) (by simp only [go_sem, *]; first | done | with_reducible rfl) (by simp only [go_sem, *]; first | done | with_reducible rfl) (by simp only [go_sem]; first | done | with_reducible rfl)
     | exact o_s hT true (by simp only [go_sem, *]; first | done | with_reducible rfl)
     | fail)
  | exact tg 9 (by rfl) (by first
     | exact o_anil hT (by rfl) (by simp only [go_sem]; first | done | with_reducible rfl) (by simp only [go_sem]; first | done | with_reducible rfl)
     | exact o_s hT true (by simp only [go_sem, *]; first | done | with_reducible rfl)
     | exact o_q hT (by simp only [go_sem, *]; first | done | with_reducible rfl) (by simp only [go_sem]; first | done | with_reducible rfl)
     | fail)
  | exact tg 12 (by rfl) (by first
     | exact o_s hT true (by simp only [go_sem, *]; first | done | with_reducible rfl)
     | exact o_q hT (by simp only [go_sem, *]; first | done | with_reducible rfl) (by simp only [go_sem]; first | done | with_reducible rfl)
     | fail)
  | exact tg 10 (by rfl) (by first
     | exact o_snil hT (by rfl) (by simp only [go_sem]; first | done | with_reducible rfl) (by simp only [go_sem, *]; first | done | with_reducible rfl) (by simp only [go_sem, *]; first | done | with_reducible rfl) (by simp only [go_sem]; first | done | with_reducible rfl) (by simp only [go_sem, *]; first | done | fail) (by simp only [go_sem, *]; first | done | with_reducible rfl) (by simp only [go_sem]; first | done | with_reducible rfl)
     | exact o_s hT true (by simp only [go_sem, *]; first | done | with_reducible rfl)
     | fail)
  | exact tg 6 (by rfl) (by first
     | exact o_q hT (by simp only [go_sem, *]; first | done | with_reducible rfl) (by simp only [go_sem]; first | done | with_reducible rfl)
     | exact o_bstr hT (by rfl) (by simp only [go_sem]; first | done | with_reducible rfl) (by simp only [go_sem]; first | done | with_reducible rfl) (by simp only [go_sem]; first | done | with_reducible rfl) (by simp only [go_sem, *]; first | done | with_reducible rfl) (by simp only [go_sem, *]; first | done | with_reducible rfl) (by simp only [go_sem, *]; first | done | fail) (by simp only [go_sem]; first | done | with_reducible rfl)
     | exact o_s hT true (by simp only [go_sem, *]; first | done | with_reducible rfl)
     | fail)
  | exact ao1
  | fail) : AO P o S S' := h
/-- The same; what is assigned is taken. -/
theorem aoF (h : AO P o S S' := by
  first
  | exact tg 0 (by rfl) (by first
     | exact o_q hT (by simp only [go_sem, *]; first | done | with_reducible rfl) (by simp only [go_sem]; first | done | with_reducible rfl)
     | exact o_s hT false (by simp only [go_sem, *]; first | done | with_reducible rfl)
     | fail)
  | exact tg 7 (by rfl) (by first
     | exact o_q hT (by simp only [go_sem, *]; first | done | with_reducible rfl) (by simp only [go_sem]; first | done | with_reducible rfl)
     | exact o_slt (by rfl) (by simp only [go_sem, *]; first | done | with_reducible rfl) (by simp only [go_sem, *]; first | done | with_reducible rfl) (by simp only [go_sem]; first | done | with_reducible rfl)
     | exact o_s hT false (by simp only [go_sem, *]; first | done | with_reducible rfl)
     | fail)
  | exact tg 9 (by rfl) (by first
     | exact o_anil hT (by rfl) (by simp only [go_sem]; first | done | with_reducible rfl) (by simp only [go_sem]; first | done | with_reducible rfl)
     | exact o_s hT false (by simp only [go_sem, *]; first | done | with_reducible rfl)
     | exact o_q hT (by simp only [go_sem, *]; first | done | with_reducible rfl) (by simp only [go_sem]; first | done | with_reducible rfl)
     | fail)
  | exact tg 12 (by rfl) (by first
     | exact o_s hT false (by simp only [go_sem, *]; first | done | with_reducible rfl)
     | exact o_q hT (by simp only [go_sem, *]; first | done | with_reducible rfl) (by simp only [go_sem]; first | done | with_reducible rfl)
     | fail)
  | exact tg 10 (by rfl) (by first
     | exact o_snil hT (by rfl) (by simp only [go_sem]; first | done | with_reducible rfl) (by simp only [go_sem, *]; first | done | with_reducible rfl) (by simp only [go_sem, *]; first | done | with_reducible rfl) (by simp only [go_sem]; first | done | with_reducible rfl) (by simp only [go_sem, *]; first | done | fail) (by simp only [go_sem, *]; first | done | with_reducible rfl) (by simp only [go_sem]; first | done | with_reducible rfl)
     | exact o_s hT false (by simp only [go_sem, *]; first | done | with_reducible rfl)
     | fail)
  | exact tg 6 (by rfl) (by first
     | exact o_q hT (by simp only [go_sem, *]; first | done | with_reducible rfl) (by simp only [go_sem]; first | done | with_reducible rfl)
     | exact o_bstr hT (by rfl) (by simp only [go_sem]; first | done | with_reducible rfl) (by simp only [go_sem]; first | done | with_reducible rfl) (by simp only [go_sem]; first | done | with_reducible rfl) (by simp only [go_sem, *]; first | done | with_reducible rfl) (by simp only [go_sem, *]; first | done | with_reducible rfl) (by simp only [go_sem, *]; first | done | fail) (by simp only [go_sem]; first | done | with_reducible rfl)
     | exact o_s hT false (by simp only [go_sem, *]; first | done | with_reducible rfl)
     | fail)
  | exact ao1
  | fail) : AO P o S S' := h

/-! ### regions that take a call's results apart in any order -/
/-- What an operation does to a slot: sets it, or takes a part of the tuple in it. -/
inductive UV where
  | v (x : AV)
  | h (i : Nat)
def hset (b : Bool) : Nat → List AV → List AV
  | _, [] => []
  | 0, x :: xs => (bif b then .undef else x) :: xs
  | i + 1, x :: xs => x :: hset b i xs
def updV (b : Bool) : UV → AV → AV
  | .v x, y => bif b then x else y
  | .h i, .tup xs => .tup (hset b i xs)
  | .h _, y => y
def updAt (b : Bool) : Nat → UV → List AV → List AV
  | _, _, [] => []
  | 0, u, x :: S => updV b u x :: S
  | n + 1, u, x :: S => x :: updAt b n u S
def putU (b : Bool) : List (Nat × UV) → List AV → List AV
  | [], S => S
  | (s, u) :: W, S => putU b W (updAt b s u S)
def fillU (D : Nat → Bool) : Nat → List (List (Nat × UV)) → List AV → List AV
  | _, [], S => S
  | k, w :: W, S => fillU D (k + 1) W (putU (D k) w S)
theorem hset_f : ∀ (i : Nat) (xs : List AV), hset false i xs = xs
  | i, [] => by cases i <;> rfl
  | 0, _ :: _ => rfl
  | i + 1, x :: xs => by simp [hset, hset_f i xs]
theorem updV_f (u : UV) (x : AV) : updV false u x = x := by
  cases u with
  | v y => rfl
  | h i => cases x <;> simp [updV, hset_f]
theorem updAt_f (u : UV) : ∀ (n : Nat) (S : List AV), updAt false n u S = S
  | n, [] => by cases n <;> rfl
  | 0, x :: S => by simp [updAt, updV_f]
  | n + 1, x :: S => by simp [updAt, updAt_f u n S]
theorem putU_f : ∀ (W : List (Nat × UV)) (S : List AV), putU false W S = S
  | [], _ => rfl
  | (s, u) :: W, S => by simp [putU, updAt_f, putU_f W]
theorem fillU_none : ∀ (W : List (List (Nat × UV))) (k : Nat) (S : List AV), fillU (fun _ => false) k W S = S
  | [], _, _ => rfl
  | w :: W, k, S => by simp [fillU, putU_f, fillU_none W]
theorem fillU_congr {D D' : Nat → Bool} : ∀ (W : List (List (Nat × UV))) (k : Nat) (S : List AV), (∀ j, k ≤ j → j < k + W.length → D j = D' j) → fillU D k W S = fillU D' k W S
  | [], _, _, _ => rfl
  | w :: W, k, S, h => by
    simp only [fillU]
    rw [h k (Nat.le_refl _) (by simp)]
    exact fillU_congr W (k + 1) _ fun j hj hl => h j (by omega) (by simp only [List.length_cons]; omega)
theorem as_t (hg : gchk ops S o = some true := by first | exact gchk_none rfl | (simp only [go_sem, *]; first | done | fail) | fail) (ho : AO P o S S' := by exact ao) : AS P ops o S S' := .inl ⟨hg, ho⟩
theorem as_tF (hg : gchk ops S o = some true := by first | exact gchk_none rfl | (simp only [go_sem, *]; first | done | fail) | fail) (ho : AO P o S S' := by exact aoF) : AS P ops o S S' := .inl ⟨hg, ho⟩
theorem as_k (hg : gchk ops S o = some false := by simp only [go_sem, *]; first | done | fail) (hp : aput o.dst (.tup []) S = S' := by simp only [go_sem]; first | done | with_reducible rfl) : AS P ops o S S' := .inr ⟨hg, hp⟩
theorem st_o {A : List (List Nat)} {F : (Nat → Bool) → List AV} {k : Nat} (ds : List Nat) (h2 : Steps P ops A F (k + 1) l)
    (h1 : ∀ D, D k = false → allT D ((A[k]?).getD []) → allF D ds → AS P ops o (F D) (F (also D k)) := by
      intro D hk hd hf
      try simp only [go_sem, allT, Option.getD_some] at hd
      try simp only [go_sem, allF] at hf
      simp only [fillW, putIfs, putIf, fillU, putU, updAt, updV, hset, cond_true, also, Nat.reduceBEq, cond_false, Nat.reduceAdd, hd, hk, hf]
      first | exact as_k | exact as_t | fail)
    (hds : (ds.all fun j => ((A[j]?).getD []).contains k) = true := by decide +kernel) : Steps P ops A F k (o :: l) := steps_cons2 ds hds h1 h2
theorem st_oF {A : List (List Nat)} {F : (Nat → Bool) → List AV} {k : Nat} (ds : List Nat) (h2 : Steps P ops A F (k + 1) l)
    (h1 : ∀ D, D k = false → allT D ((A[k]?).getD []) → allF D ds → AS P ops o (F D) (F (also D k)) := by
      intro D hk hd hf
      try simp only [go_sem, allT, Option.getD_some] at hd
      try simp only [go_sem, allF] at hf
      simp only [fillW, putIfs, putIf, fillU, putU, updAt, updV, hset, cond_true, also, Nat.reduceBEq, cond_false, Nat.reduceAdd, hd, hk, hf]
      first | exact as_k | exact as_tF | fail)
    (hds : (ds.all fun j => ((A[j]?).getD []).contains k) = true := by decide +kernel) : Steps P ops A F k (o :: l) := steps_cons2 ds hds h1 h2

/-- A step that is put off. -/
theorem st_oL {A : List (List Nat)} {F : (Nat → Bool) → List AV} {k : Nat} (ds : List Nat) (h1 : ∀ D, D k = false → allT D ((A[k]?).getD []) → allF D ds → AS P ops o (F D) (F (also D k))) (h2 : Steps P ops A F (k + 1) l)
    (hds : (ds.all fun j => ((A[j]?).getD []).contains k) = true := by decide +kernel) : Steps P ops A F k (o :: l) := steps_cons2 ds hds h1 h2
theorem aw_anyU {id : Nat} {Q : Exit → List AV → Prop} (A : List (List Nat)) (W : List (List (Nat × UV))) (hT : TabOk P Γ) (hA : ancOk l.toArray A = true)
    (hst : Steps P l.toArray A (fun D => fillU D 0 W S) 0 l) (hl : W.length = l.length) (hQ : Q .normal (fillU (fun _ => true) 0 W S)) : AW P (.region id l.toArray true) S Q :=
  aw_anyF hT A hA (fun D => fillU D 0 W S) (fillU_none W 0 S) hst fun D hD => by
    have : fillU D 0 W S = fillU (fun _ => true) 0 W S := fillU_congr W 0 S (fun j _ h => hD j (by omega))
    rw [this]; exact hQ

/-! ### regions that only read and reckon -/
variable {ds : List Nat}
theorem ad_t {S' : List AV} (hd : AD P ops ds [o] S fun X => X = S') (h : AD P ops ds l S' N) : AD P ops ds (o :: l) S N := by
  obtain ⟨v, h1, h2, rfl⟩ := hd
  exact ⟨v, h1, h2, h⟩
/-- One operation of a region that only reads and reckons. -/
theorem ad1 {M : List AV → Prop} (h : AD P ops ds [o] S M := by
  first
  | (with_reducible apply ad_q hT
     · first | exact gchk_none rfl | simp only [go_sem, *]
     · simp only [go_sem, *]; first | done | with_reducible rfl
     · simp only [go_sem, *]
     · simp only [go_sem]; first | done | with_reducible rfl
     exact ad_nil rfl)
  | (with_reducible apply ad_assign
     · first | exact gchk_none rfl | simp only [go_sem, *]
     · rfl
     · simp only [go_sem, *]; first | done | with_reducible rfl
     · simp only [go_sem, *]
     · simp only [go_sem]; first | done | with_reducible rfl
     exact ad_nil rfl)
  | (with_reducible apply ad_skip
     · simp only [go_sem, *]
     · simp only [go_sem]; first | done | with_reducible rfl
     exact ad_nil rfl)
  | (with_reducible apply ad_call
     · first | exact gchk_none rfl | simp only [go_sem, *]
     · rfl
     · exact Con.call
     · simp only [go_sem, *]; first | done | with_reducible rfl
     · simp only [go_sem, *]
     · first | assumption | ((with_reducible apply use_c); intro hcon; (with_reducible apply hcon) <;> first | assumption | rfl | exact Kept.out (by assumption))
     · simp only [go_sem, *]
     · simp only [go_sem]; first | done | with_reducible rfl
     exact ad_nil rfl)
  | (with_reducible apply ad_snap
     · first | exact gchk_none rfl | simp only [go_sem, *]
     · rfl
     · exact Con.call
     · simp only [go_sem, *]; first | done | with_reducible rfl
     · simp only [go_sem, *]; first | done | with_reducible rfl
     · first | assumption | ((with_reducible apply use_c); intro hcon; (with_reducible apply hcon) <;> first | assumption | rfl | exact Kept.out (by assumption))
     · simp only [go_sem, *]
     · simp only [go_sem, *]
     · simp only [go_sem]; first | done | with_reducible rfl
     exact ad_nil rfl)
  | fail) : AD P ops ds [o] S M := h
end
/-- A step that the goal's form alone decides. -/
class Stp (p : Prop) (q : outParam Prop) : Prop where
  go : q → p
theorem stp {p q : Prop} [i : Stp p q] (h : q) : p := i.go h
def NotLit (_ : Bool) : Prop := True
theorem notlit_t : NotLit true := trivial
theorem notlit_f : NotLit false := trivial
theorem notlit (t : Bool) : NotLit t := trivial
section
variable {P : Program} {Γ : Tab} {S S' : List AV} {ops : Array Oper} {l : List Oper} {o : Oper} {N M : List AV → Prop} {Q : Exit → List AV → Prop} {x y : Code} {i j : Nat} {st : Bool} {ds : List Nat} {rs : List ResultVar} {r v : AV}
instance : Stp (AW P (.seq x y) S Q) (AW P x S (thenA (fun S' => AW P y S' Q) Q)) := ⟨aw_seq⟩
instance : Stp (AW P (.block i x) S Q) (AW P x S (blockA i Q)) := ⟨aw_block⟩
instance : Stp (AW P .skip S Q) (Q .normal S) := ⟨aw_skip⟩
instance : Stp (AW P (.exit i) S Q) (Q (.exit i) S) := ⟨aw_exit⟩
instance : Stp (AW P .ret S Q) (Q .ret S) := ⟨aw_ret⟩
instance : Stp (AW P (.region i l.toArray false) S Q) (AL P false l.toArray l S (Q .normal)) := ⟨aw_reg⟩
instance : Stp (thenA M Q .normal S) (M S) := ⟨thenA_n⟩
instance : Stp (thenA M Q .ret S) (Q .ret S) := ⟨thenA_r⟩
instance : Stp (thenA M Q (.exit i) S) (Q (.exit i) S) := ⟨thenA_x⟩
instance : Stp (blockA i Q .normal S) (Q .normal S) := ⟨blockA_n⟩
instance : Stp (blockA i Q .ret S) (Q .ret S) := ⟨blockA_r⟩
instance : Stp (blockA i Q (.exit i) S) (Q .normal S) := ⟨blockA_e⟩
instance : Stp (endsA Γ rs r .ret S) (ares Γ rs S = some r) := ⟨ends_r⟩
instance : Stp (endsA Γ rs r .normal S) (ares Γ rs S = some r) := ⟨ends_n⟩
instance : Stp (endsM Γ rs i r v .ret S) (aresM Γ rs S i = some (r, v)) := ⟨ends_rM⟩
instance : Stp (endsM Γ rs i r v .normal S) (aresM Γ rs S i = some (r, v)) := ⟨ends_nM⟩
instance : Stp (AL P st ops [] S N) (N S) := ⟨al_nil⟩
instance : Stp (AD P ops ds [] S N) (N S) := ⟨ad_nil⟩
end
section
variable {P : Program} {Γ : Tab} {f n t : Nat} {fn : Func} {c : Code} {args fr : List AV} {r v : AV} {rs : Array ResultVar}
theorem snd_b (hT : TabOk P Γ) (hf : P.funcs[f]? = some fn) (hr : fn.results = rs) (hn : fn.ntmps = n) (h : AW P c fr (endsA Γ rs.toList r)) (hb : fn.body = some c := by rfl)
    (hfr : frame args n = fr := by simp only [frame, List.length_cons, List.length_nil, List.replicate, List.cons_append, List.nil_append, Nat.reduceAdd, Nat.reduceSub]; first | done | with_reducible rfl | fail) : Sound P f args r := by
  subst hr hn hfr; exact sound_body hT hf hb h
theorem snd_M (hT : TabOk P Γ) (hf : P.funcs[f]? = some fn) (hr : fn.results = rs) (hn : fn.ntmps = n) (h : AW P c fr (endsM Γ rs.toList t r v)) (hb : fn.body = some c := by rfl) (hno : noDst t c = true := by decide +kernel) (htl : t < args.length := by simp) (hpv : plA v = true := by simp only [go_sem, *]; first | done | fail)
    (hfr : frame args n = fr := by simp only [frame, List.length_cons, List.length_nil, List.replicate, List.cons_append, List.nil_append, Nat.reduceAdd, Nat.reduceSub]; first | done | with_reducible rfl | fail) : SoundM P f args t r v := by
  subst hr hn hfr; exact sound_bodyM hT hf hb hno htl hpv h
theorem snd_B (hT : TabOk P Γ) (hf : P.funcs[f]? = some fn) (hr : fn.results = rs) (hn : fn.ntmps = n) (h : AW P c fr (endsM Γ rs.toList t r v)) (hb : fn.body = some c := by rfl) (hno : noDst t c = true := by decide +kernel) (htl : t < args.length := by simp) (hpv : nrA v = true := by simp only [go_sem, *]; first | done | fail)
    (hfr : frame args n = fr := by simp only [frame, List.length_cons, List.length_nil, List.replicate, List.cons_append, List.nil_append, Nat.reduceAdd, Nat.reduceSub]; first | done | with_reducible rfl | fail) : SoundB P f args t r v := by
  subst hr hn hfr; exact sound_bodyB hT hf hb hno htl hpv h
end
/-! ### a step as what is left to show -/
class IsAL (p : Prop) : Prop where
  ok : True
class IsAD (p : Prop) : Prop where
  ok : True
class IsAC (p : Prop) : Prop where
  ok : True
class IsAR (p : Prop) (i : Nat) : Prop where
  ok : True
class IsAN (p : Prop) : Prop where
  ok : True
class IsRt (p : Prop) : Prop where
  ok : True
section
variable {P : Program} {Γ : Tab} {S S' S1 : List AV} {ops : Array Oper} {l l1 l2 : List Oper} {o : Oper} {N : List AV → Prop} {Q : Exit → List AV → Prop} {x y : Code} {i j : Nat} {st : Bool} {ds : List Nat} {c : Operand} {p q r : Prop}
instance : IsAL (AL P st ops (o :: l) S N) := ⟨trivial⟩
instance : IsAD (AD P ops ds (o :: l) S N) := ⟨trivial⟩
instance : IsAC (AW P (.cond c x y) S Q) := ⟨trivial⟩
instance : IsAR (AW P (.region i ops true) S Q) i := ⟨trivial⟩
instance : IsAN (AW P (.region i ops true) S Q) := ⟨trivial⟩
instance : IsRt (AW P .ret S Q) := ⟨trivial⟩
theorem shAL [IsAL p] (h : q → p) : q → p := h
theorem shAD [IsAD p] (h : q → p) : q → p := h
theorem shAR (i : Nat) [IsAR p i] (h : q → p) : q → p := h
theorem shAC [IsAC p] (h : q → p) : q → p := h
theorem shAN [IsAN p] (h : q → p) : q → p := h
theorem shRt [IsRt p] (h : q → p) : q → p := h
theorem sh2L [IsAL p] (h : q → r → p) : q → r → p := h
theorem sh2D [IsAD p] (h : q → r → p) : q → r → p := h
theorem sh2C [IsAC p] (h : q → r → p) : q → r → p := h
theorem blkX (hne : j ≠ i := by decide) : Q (.exit j) S → blockA i Q (.exit j) S := blockA_x hne
theorem i_a (hT : TabOk P Γ) (hB : Region.lexB .any l.toArray = true := by decide +kernel) : AL P true l.toArray l S (Q .normal) → AW P (.region i l.toArray true) S Q := aw_any hT hB
theorem i_t (hg : gchk ops S o = some true := by first | exact gchk_none rfl | (simp only [go_sem, *]; first | done | fail) | fail) (ho : AO P o S S' := by exact ao) : AL P false ops l S' N → AL P false ops (o :: l) S N := al_op hg ho
theorem i_tF (hg : gchk ops S o = some true := by first | exact gchk_none rfl | (simp only [go_sem, *]; first | done | fail) | fail) (ho : AO P o S S' := by exact aoF) : AL P false ops l S' N → AL P false ops (o :: l) S N := al_op hg ho
theorem i_tq {v : AV} (hT : TabOk P Γ) (hg : gchk ops S o = some true := by first | exact gchk_none rfl | (simp only [go_sem, *]; first | done | fail) | fail) (hv : qv Γ S o = some v := by simp only [go_sem, *]; first | done | with_reducible rfl | fail) (hS : aput o.dst v S = S' := by simp only [go_sem]; first | done | with_reducible rfl) :
    AL P st ops l S' N → AL P st ops (o :: l) S N := al_q hT hg hv hS
theorem i_k (hg : gchk ops S o = some false := by simp only [go_sem, *]; first | done | fail) (hS : aput o.dst (.tup []) S = S' := by simp only [go_sem]; first | done | with_reducible rfl) : AL P st ops l S' N → AL P st ops (o :: l) S N := al_skip hg hS
theorem i_d (hd : AD P ops ds [o] S (fun X => X = S') := by exact ad1) : AD P ops ds l S' N → AD P ops ds (o :: l) S N := ad_t hd
theorem i_S (hT : TabOk P Γ) (A : List (List Nat)) (ds : List Nat) (hd : dsts l = ds := by rfl) (hA : ancOk l.toArray A = true := by decide +kernel) (hi : indepB l.toArray A = true := by decide +kernel) (hn : nom ds S = true := by simp only [go_sem, *]; first | done | fail) :
    AD P l.toArray ds l S (fun S' => Q .normal S') → AW P (.region i l.toArray true) S Q := aw_anyS hT A ds hd hA hi hn
theorem i_T (hT : TabOk P Γ) (A : List (List Nat)) (m : Nat) (ds : List Nat) (e1 : l.take m = l1 := by simp only [List.take_succ_cons, List.take_zero]; with_reducible rfl) (e2 : l.drop m = l2 := by simp only [List.drop_succ_cons, List.drop_zero]; with_reducible rfl)
    (hd : dsts l1 = ds := by rfl) (hA : ancOk l.toArray A = true := by decide +kernel) (hi : indepB l.toArray A = true := by decide +kernel) (hlate : lateB l.length m A = true := by decide +kernel) (hn : nom ds S = true := by simp only [go_sem, *]; first | done | fail) :
    AD P l.toArray ds l1 S (fun S' => AL P false l.toArray l2 S' (Q .normal)) → AW P (.region i l.toArray true) S Q := aw_anyT hT A m ds e1 e2 hd hA hi hlate hn
theorem i_W (hT : TabOk P Γ) (A : List (List Nat)) (W : List (List (Nat × AV))) (hA : ancOk l.toArray A = true) (hst : Steps P l.toArray A (fun D => fillW D 0 W S) 0 l) (hl : W.length = l.length := by rfl) (hf : fillW (fun _ => true) 0 W S = S' := by simp only [fillW, putIfs, putIf, cond_true]; with_reducible rfl) :
    Q .normal S' → AW P (.region i l.toArray true) S Q := fun h => aw_anyW A W hT hA hst hl (by rw [hf]; exact h)
theorem i_U (hT : TabOk P Γ) (A : List (List Nat)) (W : List (List (Nat × UV))) (hA : ancOk l.toArray A = true) (hst : Steps P l.toArray A (fun D => fillU D 0 W S) 0 l) (hl : W.length = l.length := by rfl) (hf : fillU (fun _ => true) 0 W S = S' := by simp only [fillU, putU, updAt, updV, hset, cond_true]; with_reducible rfl) :
    Q .normal S' → AW P (.region i l.toArray true) S Q := fun h => aw_anyU A W hT hA hst hl (by rw [hf]; exact h)
theorem i_g {r : Nat} {pth : List Nat} {x0 : AV} (s : Nat) (hx : S[r]? = some x0 := by simp only [go_sem]; first | done | with_reducible rfl) (hp : plA (rootA x0) = true := by simp only [go_sem, *]; first | done | fail) (hy : aget S r pth = some (.lst true 0 []) := by simp only [go_sem]; first | done | with_reducible rfl) (hS : asetc S r pth (.lst true s []) = S' := by simp only [go_sem]; first | done | with_reducible rfl) :
    Q .ret S' → AW P .ret S Q := fun h => aw_ret_tag s hx hp hy hS h
theorem i_bv {T : Nat} {x : Operand} {vs : List AV} (hg : gchk ops S o = some true := by exact gchk_none rfl) (ho : o.op = .box T x := by rfl) (hx : ard S x = some (.agg vs) := by simp only [go_sem, *]; first | done | with_reducible rfl) (hp : aput o.dst (.ip (.agg vs)) S = S' := by simp only [go_sem]; first | done | with_reducible rfl) :
    AL P false ops l S' N → AL P false ops (o :: l) S N := al_boxv hg ho hx hp
theorem i_l {f : Nat} {args : Array Operand} {ats : Array TypeId} {rv v : AV} (t : Nat) (T : Prop) {vs : List AV} {r : Nat} {p : List Nat} {x0 y u : AV} [i : ConL P f t T] (hg : gchk ops S o = some true := by exact gchk_none rfl) (ho : o.op = .call { callee := .value (.func f), args, argTypes := ats } := by rfl)
    (hvs : ards S args.toList = some vs := by simp only [go_sem, *]; first | done | with_reducible rfl) (ht : vs[t]? = some u := by simp only [go_sem]; first | done | with_reducible rfl) (hr : vroot u = some (r, p) := by simp only [go_sem]; first | done | with_reducible rfl) (hx : S[r]? = some x0 := by simp only [go_sem]; first | done | with_reducible rfl)
    (hp : plA (rootA x0) = true := by simp only [go_sem, *]; first | done | fail) (hy : aget S r p = some y := by simp only [go_sem, *]; first | done | with_reducible rfl) (hu : aview r p y = u := by simp only [go_sem, *]; first | done | fail) (hly : lendA y = true := by simp only [go_sem, *]; first | done | fail)
    (hpl : plAs (vs.set t y) = true := by simp only [go_sem, *]; first | done | fail) (hS : T → SoundM P f (vs.set t y) t rv v := by intro hcon; simp only [go_sem]; (with_reducible apply hcon) <;> first | assumption | rfl | exact Kept.out (by assumption) | fail) (hsk : skA y v = true := by simp only [go_sem, *]; first | done | fail)
    (hp' : aput o.dst rv (aback S r p y v) = S' := by simp only [go_sem, *]; first | done | with_reducible rfl) : AL P false ops l S' N → AL P false ops (o :: l) S N :=
  al_op hg (o_lend t ho i.call hvs ht hr hx hp hy hu hly hpl (hS i.out) hsk hp')
theorem i_c {t : Bool} (hc : ard S c = some (.bool t) := by simp only [go_sem, *]; first | done | with_reducible rfl) : (t = true → AW P x S Q) → (t = false → AW P y S Q) → AW P (.cond c x y) S Q := aw_cond hc
theorem i_ct {t : Bool} (hc : ard S c = some (.bool t) := by simp only [go_sem, *]; first | done | with_reducible rfl) (hk : Kept (t = true) := by assumption) : AW P x S Q → AW P (.cond c x y) S Q := fun h => aw_cond hc (fun _ => h) (fun h2 => by rw [hk.out] at h2; cases h2)
theorem i_cf {t : Bool} (hc : ard S c = some (.bool t) := by simp only [go_sem, *]; first | done | with_reducible rfl) (hk : Kept (t = false) := by assumption) : AW P y S Q → AW P (.cond c x y) S Q := fun h => aw_cond hc (fun h2 => by rw [hk.out] at h2; cases h2) (fun _ => h)
theorem i_cT {g : Nat} {t : Bool} (hb : o.guard = some (g, true) := by rfl) (hg : graw ops S g = some t := by simp only [go_sem, *]; first | done | with_reducible rfl) (hS : aput o.dst (.tup []) S = S' := by simp only [go_sem]; first | done | with_reducible rfl)
    (hl : NotLit t := by (fail_if_success (with_reducible exact notlit_t)); (fail_if_success (with_reducible exact notlit_f)); exact notlit _) : (t = true → AL P st ops (o :: l) S N) → (t = false → AL P st ops l S' N) → AL P st ops (o :: l) S N := al_caseT hb hg hS
theorem i_cF {g : Nat} {t : Bool} (hb : o.guard = some (g, false) := by rfl) (hg : graw ops S g = some t := by simp only [go_sem, *]; first | done | with_reducible rfl) (hS : aput o.dst (.tup []) S = S' := by simp only [go_sem]; first | done | with_reducible rfl)
    (hl : NotLit t := by (fail_if_success (with_reducible exact notlit_t)); (fail_if_success (with_reducible exact notlit_f)); exact notlit _) : (t = false → AL P st ops (o :: l) S N) → (t = true → AL P st ops l S' N) → AL P st ops (o :: l) S N := al_caseF hb hg hS
theorem i_dT {g : Nat} {t : Bool} (hb : o.guard = some (g, true) := by rfl) (hg : graw ops S g = some t := by simp only [go_sem, *]; first | done | with_reducible rfl) (hS : sput o.dst (.tup []) S = S' := by simp only [go_sem]; first | done | with_reducible rfl)
    (hl : NotLit t := by (fail_if_success (with_reducible exact notlit_t)); (fail_if_success (with_reducible exact notlit_f)); exact notlit _) : (t = true → AD P ops ds (o :: l) S N) → (t = false → AD P ops ds l S' N) → AD P ops ds (o :: l) S N := ad_caseT hb hg hS
theorem i_dF {g : Nat} {t : Bool} (hb : o.guard = some (g, false) := by rfl) (hg : graw ops S g = some t := by simp only [go_sem, *]; first | done | with_reducible rfl) (hS : sput o.dst (.tup []) S = S' := by simp only [go_sem]; first | done | with_reducible rfl)
    (hl : NotLit t := by (fail_if_success (with_reducible exact notlit_t)); (fail_if_success (with_reducible exact notlit_f)); exact notlit _) : (t = false → AD P ops ds (o :: l) S N) → (t = true → AD P ops ds l S' N) → AD P ops ds (o :: l) S N := ad_caseF hb hg hS
end
/-- A step that leaves one thing to show. -/
theorem i1 {p q : Prop} (h : q → p := by
  first
  | exact Stp.go
  | exact shAL (by first | exact i_t | exact i_tq hT | exact i_k | fail)
  | exact blkX
  | exact shAD (by exact i_d)
  | exact shAN (by exact i_a hT)
  | exact shAC (by first | exact i_ct | exact i_cf | fail)
  | fail) : q → p := h
theorem i1F {p q : Prop} (h : q → p := by
  first
  | exact Stp.go
  | exact shAL (by first | exact i_tF | exact i_tq hT | exact i_k | fail)
  | exact blkX
  | exact shAD (by exact i_d)
  | exact shAN (by exact i_a hT)
  | exact shAC (by first | exact i_ct | exact i_cf | fail)
  | fail) : q → p := h
theorem one {p q : Prop} (k : q) (h : q → p := by exact i1) : p := h k
theorem oneF {p q : Prop} (k : q) (h : q → p := by exact i1F) : p := h k
/-- A step that parts ways. -/
theorem two {p q r : Prop} (k1 : q) (k2 : r) (h : q → r → p := by
  first
  | exact sh2C (by exact i_c)
  | exact sh2L (by first | exact i_cT | exact i_cF | fail)
  | exact sh2D (by first | exact i_dT | exact i_dF | fail)
  | fail) : p := h k1 k2
/-- The rest of a walk, where no more than its steps is wanted. -/
theorem wk {p : Prop} (h : p := by
  repeat' (first | refine one ?_ | (refine two ?_ ?_; all_goals (intro h; try simp only [Bool.not_eq_true', Bool.not_eq_false', reduceCtorEq] at h)) | fail)
  all_goals (simp only [go_sem, *]; first | done | rfl)) : p := h
end Go.Bv
