/- Drawn regions whose last operations wait for all before them; cheap clearing. Generic: no program. -/
import Derived.Test.YtedjmclcjkcooaaBvM4
namespace Go.Bv
open Go Go.RowKit
set_option linter.unusedSimpArgs false
set_option linter.unusedVariables false

/-- From m on each waits for all before it. -/
def lateB (n m : Nat) (A : List (List Nat)) : Bool := decide (m ≤ n) && (List.range n).all fun k => decide (k < m) || (List.range k).all fun j => ((A[k]?).getD []).contains j
section
variable {P : Program} {Γ : Tab} {S : List AV} {ops : Array Oper} {l : List Oper} {o : Oper} {N : List AV → Prop} {A : List (List Nat)} {F : (Nat → Bool) → List AV}

theorem anc_of (hA : ancOk ops A = true) : ∀ (k : Nat) (o : Oper), ops[k]? = some o → (∀ e ∈ o.after, Region.binds .any e = true → e.on < k) ∧ ∀ j ∈ (A[k]?).getD [], ∃ e ∈ o.after, Region.binds .any e = true ∧ (e.on = j ∨ j ∈ (A[e.on]?).getD []) := by
  intro k o ho
  have hlt : k < ops.size := (Array.getElem?_eq_some_iff.1 ho).1
  have := List.all_eq_true.1 hA k (List.mem_range.2 hlt)
  simp only [ho, Bool.and_eq_true, Array.all_eq_true_iff_forall_mem, Bool.or_eq_true, Bool.not_eq_true', decide_eq_true_eq, List.all_eq_true, Array.any_eq_true'] at this
  refine ⟨fun e he hb => (this.1 e he).resolve_left (by simp [hb]), fun j hj => ?_⟩
  obtain ⟨e, he, h1⟩ := this.2 j hj
  refine ⟨e, he, h1.1, h1.2.imp (fun h => by simpa using h) (fun h => by simpa using h)⟩
theorem anc_lt (hA : ancOk ops A = true) : ∀ (k : Nat), k < ops.size → ∀ j ∈ (A[k]?).getD [], j < k := by
  intro k
  induction k using Nat.strongRecOn with
  | _ k ih =>
    intro hk j hj
    have ho : ops[k]? = some ops[k] := by simp [hk]
    obtain ⟨h1, h2⟩ := anc_of hA k _ ho
    obtain ⟨e, he, hb, h3⟩ := h2 j hj
    have := h1 e he hb
    rcases h3 with h3 | h3
    · omega
    · have := ih e.on this (by omega) j h3
      omega
theorem late_of {n m : Nat} (h : lateB n m A = true) : m ≤ n ∧ ∀ k, m ≤ k → k < n → ∀ j, j < k → j ∈ (A[k]?).getD [] := by
  simp only [lateB, Bool.and_eq_true, decide_eq_true_eq, List.all_eq_true, List.mem_range, Bool.or_eq_true] at h
  refine ⟨h.1, fun k hm hk j hj => ?_⟩
  rcases h.2 k hk with h2 | h2
  · omega
  · simpa using h2 j hj

theorem any_tail (hA : ancOk ops A = true) {m : Nat} (hlate : ∀ k, m ≤ k → k < ops.size → ∀ j, j < k → j ∈ (A[k]?).getD []) {Q : Exit → Act → World → Prop} :
    ∀ (fuel j : Nat) (listed : Array Bool) (a : Act) (w : World), m ≤ j → j ≤ ops.size → listed.size = ops.size → (∀ i, i < ops.size → listed[i]? = some (decide (i < j))) → ops.size - j ≤ fuel →
      wpOps P ops Q (List.range' j (ops.size - j)) a w → wpAny P .any ops Q fuel listed a w := by
  have hrd : ∀ (j : Nat) (listed : Array Bool), m ≤ j → (∀ i, i < ops.size → listed[i]? = some (decide (i < j))) → ∀ i ∈ Region.ready .any ops listed, i = j := by
    intro j listed hmj hl i hi
    obtain ⟨h1, o, ho, hpre⟩ := mem_ready.1 hi
    have hil : i < ops.size := (Array.getElem?_eq_some_iff.1 ho).1
    have hij : j ≤ i := by simpa [hl i hil] using h1
    rcases Nat.lt_or_ge j i with hlt | hge
    · exfalso
      obtain ⟨e, he, hb, h3⟩ := (anc_of hA i o ho).2 j (hlate i (by omega) hil j hlt)
      have he1 := (anc_of hA i o ho).1 e he hb
      have he2 : e.on < j := by
        have := hpre e he hb
        have h4 : e.on < ops.size := by omega
        simpa [hl _ h4] using this
      rcases h3 with h3 | h3
      · omega
      · have := anc_lt hA e.on (by omega) j h3
        omega
    · omega
  have hrn : ∀ (j : Nat) (listed : Array Bool), j < ops.size → (∀ i, i < ops.size → listed[i]? = some (decide (i < j))) → j ∈ Region.ready .any ops listed := by
    intro j listed hj hl
    rw [mem_ready]
    refine ⟨by simp [hl j hj], ops[j], by simp [hj], fun e he hb => ?_⟩
    have := (anc_of hA j ops[j] (by simp [hj])).1 e he hb
    have h2 : e.on < ops.size := by omega
    simp [hl _ h2, this]
  intro fuel
  induction fuel with
  | zero =>
    intro j listed a w hmj hj hs hl hf h
    have e : j = ops.size := by omega
    subst e
    rw [Nat.sub_self] at h
    refine ⟨?_, h⟩
    apply List.eq_nil_iff_forall_not_mem.2
    intro i hi
    have := hrd _ listed hmj hl i hi
    obtain ⟨_, o, ho, _⟩ := mem_ready.1 hi
    have := (Array.getElem?_eq_some_iff.1 ho).1
    omega
  | succ fuel ih =>
    intro j listed a w hmj hj hs hl hf h
    rcases Nat.lt_or_ge j ops.size with hlt | hge
    · refine ⟨fun hr => ?_, fun i hi => ?_⟩
      · have := hrn j listed hlt hl
        rw [hr] at this
        simp at this
      · have e := hrd j listed hmj hl i hi
        subst e
        rw [show ops.size - i = (ops.size - (i + 1)) + 1 by omega, List.range'_succ, wpOps_cons] at h
        refine wpOp_mono (fun a' w' h' => ih (i + 1) _ a' w' (by omega) (by omega) (by simp [hs]) (fun k hk => ?_) (by omega) h') h
        by_cases hki : k = i
        · subst hki; simp [hs, hk]
        · rw [Array.getElem?_setIfInBounds_ne (by omega), hl k hk]
          congr 1
          rw [decide_eq_decide]; omega
    · have e : j = ops.size := by omega
      subst e
      rw [Nat.sub_self] at h
      refine ⟨fun _ => h, fun i hi => ?_⟩
      have := hrd _ listed hmj hl i hi
      obtain ⟨_, o, ho, _⟩ := mem_ready.1 hi
      have := (Array.getElem?_eq_some_iff.1 ho).1
      omega

theorem undone_len {n m : Nat} (h : m ≤ n) : ((List.range n).filter fun k => !decide (k < m)).length = n - m := by
  obtain ⟨d, rfl⟩ : ∃ d, n = m + d := ⟨n - m, by omega⟩
  rw [List.range_add, List.filter_append, List.length_append]
  have e1 : (List.range m).filter (fun k => !decide (k < m)) = [] := by
    rw [List.filter_eq_nil_iff]
    intro k hk
    simpa using hk
  have e2 : ((List.range d).map (m + ·)).filter (fun k => !decide (k < m)) = (List.range d).map (m + ·) := by
    rw [List.filter_eq_self]
    intro k hk
    simp only [List.mem_map] at hk
    obtain ⟨j, _, rfl⟩ := hk
    simp
  rw [e1, e2]
  simp

theorem any_go2 (hA : ancOk ops A = true) {m : Nat} (hm : m ≤ ops.size) (hlate : ∀ k, m ≤ k → k < ops.size → ∀ j, j < k → j ∈ (A[k]?).getD []) (hst : Steps P ops A F 0 (ops.toList.take m)) {K : Kp P} (hF : ∀ o ∈ ops.toList, K.free o.dst) {w0 : World} {Z0 : Nat → Prop} {Q : Exit → Act → World → Prop}
    (hQ : ∀ D a w, (∀ k, k < m → D k = true) → At K w0 Z0 (F D) a w → wpOps P ops Q (List.range' m (ops.size - m)) a w) :
    ∀ (fuel : Nat) (listed : Array Bool) (D : Nat → Bool) (a : Act) (w : World), listed.size = ops.size → (∀ j, j < ops.size → listed[j]? = some (D j)) → (∀ k, m ≤ k → D k = false) →
      Cl A D → ((List.range ops.size).filter fun k => !D k).length ≤ fuel → At K w0 Z0 (F D) a w → wpAny P .any ops Q fuel listed a w := by
  intro fuel
  induction fuel with
  | zero =>
    intro listed D a w hs hl hlat hinv hf hAt
    have hall : ∀ k, k < ops.size → D k = true := by
      intro k hk
      have : (List.range ops.size).filter (fun k => !D k) = [] := List.eq_nil_of_length_eq_zero (by omega)
      have := List.filter_eq_nil_iff.1 this k (List.mem_range.2 hk)
      simpa using this
    have e : m = ops.size := by
      rcases Nat.lt_or_ge m ops.size with h | h
      · have := hall m h; rw [hlat m (Nat.le_refl _)] at this; cases this
      · omega
    refine any_tail hA hlate 0 m listed a w (Nat.le_refl _) hm hs (fun i hi => ?_) (by omega) (hQ D a w (fun k hk => hall k (by omega)) hAt)
    rw [hl i hi, hall i hi]; simp; omega
  | succ fuel ih =>
    intro listed D a w hs hl hlat hinv hf hAt
    by_cases hall : ∀ k, k < m → D k = true
    · have hD : ∀ i, D i = decide (i < m) := fun i => by
        by_cases hi : i < m
        · rw [hall i hi]; simp [hi]
        · rw [hlat i (by omega)]; simp [hi]
      refine any_tail hA hlate _ m listed a w (Nat.le_refl _) hm hs (fun i hi => by rw [hl i hi, hD i]) ?_ (hQ D a w hall hAt)
      have e : (fun k => !D k) = fun k => !decide (k < m) := by funext k; rw [hD k]
      rw [e, undone_len hm] at hf
      exact hf
    · refine ⟨fun hr => ?_, fun i hi => ?_⟩
      · exfalso
        apply hall
        intro k
        induction k using Nat.strongRecOn with
        | _ k ihk =>
          intro hk
          cases hD : D k with
          | true => rfl
          | false =>
            have hks : k < ops.size := by omega
            have : k ∈ Region.ready .any ops listed := by
              rw [mem_ready]
              refine ⟨by simp [hl k hks, hD], ops[k], by simp [hks], fun e he hb => ?_⟩
              have := (anc_of hA k ops[k] (by simp [hks])).1 e he hb
              have h2 : e.on < ops.size := by omega
              simp [hl _ h2, ihk _ this (by omega)]
            rw [hr] at this
            simp at this
      obtain ⟨h1, o, ho, hpre⟩ := mem_ready.1 hi
      have hil : i < ops.size := (Array.getElem?_eq_some_iff.1 ho).1
      have hDi : D i = false := by simpa [hl i hil] using h1
      have hanc : ∀ j ∈ (A[i]?).getD [], D j = true := by
        intro j hj
        obtain ⟨e, he, hb, h2⟩ := (anc_of hA i o ho).2 j hj
        have hlt := (anc_of hA i o ho).1 e he hb
        have hDe : D e.on = true := by
          have := hpre e he hb
          have h3 : e.on < ops.size := by omega
          simpa [hl _ h3] using this
        rcases h2 with h2 | h2
        · rw [← h2]; exact hDe
        · exact hinv e.on hDe j h2
      have him : i < m := by
        rcases Nat.lt_or_ge i m with h | h
        · exact h
        · exact absurd (fun k hk => hanc k (hlate i h hil k (by omega))) hall
      have hst' := steps_at (k := 0) (j := i) (o := o) hst (by rw [List.getElem?_take, if_pos him]; simpa using ho) D hinv (by simpa using hDi) (by simpa using hanc)
      rw [Nat.zero_add] at hst'
      have hnext : ∀ a' w', At K w0 Z0 (F (also D i)) a' w' → wpAny P .any ops Q fuel (listed.setIfInBounds i true) a' w' := by
        intro a' w' hAt'
        refine ih _ (also D i) a' w' (by simp [hs]) (fun j hj => ?_) (fun k hk => ?_) (fun k hD j hj => ?_) ?_ hAt'
        · by_cases hji : j = i
          · subst hji; simp [also, hs, hil]
          · have : (j == i) = false := by simp [hji]
            rw [Array.getElem?_setIfInBounds_ne (by omega), hl j hj]; simp [also, this]
        · have : (k == i) = false := by simp; omega
          simp [also, this, hlat k hk]
        · have mono : ∀ j, D j = true → also D i j = true := fun j h => by unfold also; cases (j == i) <;> simp [h]
          by_cases hki : k = i
          · subst hki; exact mono j (hanc j hj)
          · have : (k == i) = false := by simp [hki]
            simp only [also, this, cond_false] at hD
            exact mono j (hinv k hD j hj)
        · have hlt : ((List.range ops.size).filter fun k => !also D i k).length < ((List.range ops.size).filter fun k => !D k).length := by
            have hsub : ((List.range ops.size).filter fun k => !also D i k) = (((List.range ops.size).filter fun k => !D k).filter fun k => !(k == i)) := by
              rw [List.filter_filter]
              apply List.filter_congr
              intro k _
              unfold also
              cases (k == i) <;> simp
            rw [hsub]
            refine List.length_filter_lt_length_iff_exists.2 ⟨i, ?_, by simp⟩
            rw [List.mem_filter]
            exact ⟨List.mem_range.2 hil, by simp [hDi]⟩
          omega
      unfold wpOp
      simp only [ho]
      rcases hst' with ⟨hg, hop⟩ | ⟨hg, hput⟩
      · rw [gchk_wanted hAt hg, if_pos rfl]
        exact .inl (Oper.wp_mono (fun a' w' h => hnext a' w' h) (hop K w0 Z0 a w (hF o (by rw [Array.mem_toList_iff]; exact Array.mem_of_getElem? ho)) hAt Q))
      · rw [gchk_wanted hAt hg, if_neg (by simp)]
        refine hnext _ w ?_
        rw [← hput]
        exact hAt.skip o.dst (hF o (by rw [Array.mem_toList_iff]; exact Array.mem_of_getElem? ho))

theorem steps_vals {l1 : List Oper} (hpre : ∀ (i : Nat) (o : Oper), l1[i]? = some o → ops[i]? = some o) (hi : indepB ops A = true) (hn : nom (dsts l1) S = true) {vs : List AV} (h1 : vs.length = l1.length) (h2 : ∀ v ∈ vs, nomA (dsts l1) v = true)
    (h3 : ∀ (i : Nat) (o : Oper) (v : AV), l1[i]? = some o → vs[i]? = some v → LOC P ops (dsts l1) o (fillO (fun j => decide (j < i)) 0 l1 vs S) v) : Steps P ops A (fun D => fillO D 0 l1 vs S) 0 l1 := by
  have hcf : ∀ (i k : Nat) (a b : Oper), l1[i]? = some a → l1[k]? = some b → i < k → confl ops a b = true → i ∈ (A[k]?).getD [] := by
    intro i k a b ha hb hik hc
    have hb' := hpre k b hb
    have hlt : k < ops.size := (Array.getElem?_eq_some_iff.1 hb').1
    have := List.all_eq_true.1 hi k (List.mem_range.2 hlt)
    simp only [hb', Bool.and_eq_true, List.all_eq_true, List.mem_range] at this
    have := this.2 i hik
    simpa [hpre i a ha, hc] using this
  have hds : ∀ (i : Nat) (o : Oper), l1[i]? = some o → ∀ d, o.dst = some d → d ∈ dsts l1 := fun i o ho d hd => List.mem_filterMap.2 ⟨o, List.mem_of_getElem? ho, hd⟩
  refine steps_of l1 0 fun k o ho D hD hk hanc => ?_
  simp only [Nat.zero_add] at hk hanc ⊢
  obtain ⟨v, hv⟩ : ∃ v, vs[k]? = some v := by
    have : k < vs.length := by rw [h1]; exact (List.getElem?_eq_some_iff.1 ho).1
    exact ⟨vs[k], by simp [this]⟩
  have hlater : ∀ (j : Nat) (b : Oper), l1[j]? = some b → k < j → confl ops o b = true → D j = false := by
    intro j b hb hkj hc
    cases hDj : D j with
    | false => rfl
    | true => have := hD j hDj k (hcf k j o b ho hb hkj hc); rw [hk] at this; cases this
  have hfill : fillO (also D k) 0 l1 vs S = sput o.dst v (fillO D 0 l1 vs S) := by
    apply List.ext_getElem?
    intro t
    by_cases hd : o.dst = some t
    · have e1 := fillO_hit (D := also D k) l1 vs 0 k S o v ho hv hd (by simp [also]) (fun j b hkj hb hbt => by
        have := hlater j b hb hkj (by simp [confl, hd, hbt])
        have hne : (j == k) = false := by simp; omega
        simp [also, hne, this])
      rw [e1, hd]
      simp only [sput, List.getElem?_set, if_true, fillO_len]
    · rw [sput_ne hd]
      refine fillO_at l1 vs 0 S S rfl rfl fun j b hb hbt => ?_
      have hne : (j == k) = false := by
        cases hjk : j == k with
        | false => rfl
        | true =>
          simp only [beq_iff_eq] at hjk
          subst hjk
          rw [ho] at hb
          simp only [Option.some.injEq] at hb
          subst hb
          exact absurd hbt hd
      simp [also, hne]
  show AS P ops o (fillO D 0 l1 vs S) (fillO (also D k) 0 l1 vs S)
  rw [hfill]
  refine h3 k o v ho hv (fillO_nom _ _ _ _ hn h2) (hds k o ho) _ (fillO_nom _ _ _ _ hn h2) (fun t ht => ?_) (fun t ht => ?_)
  · exact fillO_at l1 vs 0 S S rfl rfl fun j b hb hbt => absurd (hds j b hb t hbt) ht
  · refine fillO_at l1 vs 0 S S rfl rfl fun j b hb hbt => ?_
    simp only [Nat.zero_add]
    rcases Nat.lt_trichotomy j k with hjk | hjk | hjk
    · rw [hanc j (hcf j k b o hb ho hjk ?_)]
      · simp [hjk]
      · simp only [confl, hbt]
        cases o.dst <;> simp [ht]
    · subst hjk; simp [hk]
    · rw [hlater j b hb hjk ?_]
      · simp; omega
      · simp only [confl, hbt]
        cases o.dst <;> simp [ht]

/-- A drawn region: first such as only read and reckon, l1; then such as wait for all before them, l2. -/
theorem aw_anyT (hT : TabOk P Γ) {id : Nat} {Q : Exit → List AV → Prop} (A : List (List Nat)) (m : Nat) (ds : List Nat) {l1 l2 : List Oper} (e1 : l.take m = l1) (e2 : l.drop m = l2) (hd : dsts l1 = ds) (hA : ancOk l.toArray A = true) (hi : indepB l.toArray A = true)
    (hlate : lateB l.length m A = true) (hn : nom ds S = true) (h : AD P l.toArray ds l1 S (fun S' => AL P false l.toArray l2 S' (Q .normal))) : AW P (.region id l.toArray true) S Q := by
  subst hd
  obtain ⟨vs, h1, h2, h3, h4⟩ := ad_vals h
  obtain ⟨hm, hl⟩ := late_of hlate
  have hl1 : l1.length = m := by rw [← e1, List.length_take]; omega
  have hpre : ∀ (i : Nat) (o : Oper), l1[i]? = some o → l.toArray[i]? = some o := by
    intro i o ho
    rw [← e1, List.getElem?_take] at ho
    split at ho
    · simpa using ho
    · cases ho
  have hst := steps_vals (P := P) hpre hi hn h1 h2 h3
  intro K w0 Z0 a w hF hAt
  have hlsz : l.toArray.size = l.length := by simp
  refine wp_region_any hT.follows (any_go2 (Q := fun e a w => ∃ S', Q e S' ∧ At K w0 Z0 S' a w) (K := K) (F := fun D => fillO D 0 l1 vs S) (A := A) (w0 := w0) (Z0 := Z0) hA (m := m) (by simpa using hm) (fun k hk hk2 => hl k hk (by simpa using hk2)) (by simpa [e1] using hst) (by simpa [Kp.frees] using hF) (fun D a w hD hAt => ?_) _ _ (fun _ => false) _ _ (by simp) (fun j hj => by simp only [Array.getElem?_replicate]; rw [if_pos hj]) (fun _ _ => rfl) (fun i h => by cases h) ?_ ?_)
  · have e : fillO D 0 l1 vs S = fillO (fun _ => true) 0 l1 vs S := by
      apply List.ext_getElem?
      intro t
      exact fillO_at l1 vs 0 S S rfl rfl fun j b hb _ => by rw [Nat.zero_add]; exact hD j (by rw [← hl1]; exact (List.getElem?_eq_some_iff.1 hb).1)
    rw [e] at hAt
    have := h4 K w0 Z0 a w (fun o ho => by
      have hFo : ∀ o ∈ l, K.free o.dst := by simpa [Kp.frees] using hF
      exact hFo o (by rw [← e2] at ho; exact List.mem_of_mem_drop ho)) hAt (fun e a w => ∃ S', Q e S' ∧ At K w0 Z0 S' a w) (fun S' a' w' hN h' => ⟨S', hN, h'⟩) m (fun j => by rw [← e2, List.getElem?_drop]; simp)
    have hlen : l2.length = l.toArray.size - m := by rw [← e2, List.length_drop]; simp
    rw [hlen] at this
    exact this
  · exact Nat.le_trans (List.length_filter_le _ _) (by simp)
  · show At K w0 Z0 (fillO (fun _ => false) 0 l1 vs S) a _
    rw [fillO_none]; exact hAt.drawn
end

/-- None of these is done. -/
def allF (D : Nat → Bool) : List Nat → Prop
  | [] => True
  | j :: r => D j = false ∧ allF D r
theorem allF_of {D : Nat → Bool} : ∀ (r : List Nat), (∀ j ∈ r, D j = false) → allF D r
  | [], _ => trivial
  | j :: r, h => ⟨h j (by simp), allF_of r fun i hi => h i (by simp [hi])⟩
theorem steps_cons2 {P : Program} {ops : Array Oper} {l : List Oper} {o : Oper} {A : List (List Nat)} {F : (Nat → Bool) → List AV} {k : Nat} (ds : List Nat) (hds : (ds.all fun j => ((A[j]?).getD []).contains k) = true)
    (h1 : ∀ D, D k = false → allT D ((A[k]?).getD []) → allF D ds → AS P ops o (F D) (F (also D k))) (h2 : Steps P ops A F (k + 1) l) : Steps P ops A F k (o :: l) :=
  ⟨fun D hC hk hd => h1 D hk (allT_of _ hd) (allF_of _ fun j hj => by
    cases hDj : D j with
    | false => rfl
    | true =>
      have := hC j hDj k (by simpa using List.all_eq_true.1 hds j hj)
      rw [hk] at this; cases this), h2⟩
/-! ### cheap clearing -/
mutual
theorem roots_men (d : Nat) : ∀ x : AV, d ∈ mroots x → menA d x = true
  | .at r _, h => by simp [mroots] at h; simp [menA, h]
  | .ref r _ _ _, h => by simp [mroots] at h; simp [menA, h]
  | .agg xs, h => by simp only [mroots, menA] at h ⊢; exact rootss_men d xs h
  | .tup xs, h => by simp only [mroots, menA] at h ⊢; exact rootss_men d xs h
  | .fn _ xs, h => by simp only [mroots, menA] at h ⊢; exact rootss_men d xs h
  | .ip x, h => by simp only [mroots, menA] at h ⊢; exact roots_men d x h
  | .undef, h | .bool _, h | .int _ _, h | .str _, h | .lst _ _ _, h | .box _, h => by simp [mroots] at h
theorem rootss_men (d : Nat) : ∀ xs : List AV, d ∈ mrootss xs → menAs d xs = true
  | [], h => by simp [mrootss] at h
  | x :: xs, h => by
    simp only [mrootss, List.mem_append] at h
    simp only [menAs, Bool.or_eq_true]
    exact h.imp (roots_men d x) (rootss_men d xs)
end
theorem aun_nom (d : Nat) (x : AV) : aun d x = if nomA [d] x then x else .undef := by
  by_cases h : d ∈ mroots x
  · have e : nomA [d] x = false := by
      rw [nomA, List.all_eq_false]
      exact ⟨d, h, by simp⟩
    simp [aun, roots_men d x h, e]
  · have e : nomA [d] x = true := by
      rw [nomA, List.all_eq_true]
      intro r hr
      have : r ≠ d := fun e => h (by rw [← e]; exact hr)
      simp [this]
    simp [aun, men_roots d x h, e]
/-- Slots ds are cleared. -/
def clrG : Nat → List Nat → List AV → List AV
  | _, _, [] => []
  | i, [], x :: S => x :: clrG (i + 1) [] S
  | i, d :: ds, x :: S => bif i == d then .undef :: clrG (i + 1) ds S else x :: clrG (i + 1) (d :: ds) S
/-- The others don't lean on them. -/
def keepB (all : List Nat) : Nat → List Nat → List AV → Bool
  | _, _, [] => true
  | i, [], x :: S => nomA all x && keepB all (i + 1) [] S
  | i, d :: ds, x :: S => bif i == d then keepB all (i + 1) ds S else (nomA all x && keepB all (i + 1) (d :: ds) S)
/-- Rising, from i. -/
def riseB : Nat → List Nat → Bool
  | _, [] => true
  | i, d :: ds => decide (i ≤ d) && riseB (d + 1) ds
theorem nomA_cons (d : Nat) (ds : List Nat) (x : AV) : nomA (d :: ds) x = (nomA [d] x && nomA ds x) := by
  rw [Bool.eq_iff_iff]
  simp only [nomA, Bool.and_eq_true, List.all_eq_true, Bool.not_eq_true', List.contains_eq_mem, List.mem_cons, decide_eq_false_iff_not, not_or, List.not_mem_nil, or_false]
  exact ⟨fun h => ⟨fun r hr => (h r hr).1, fun r hr => (h r hr).2⟩, fun h r hr => ⟨h.1 r hr, h.2 r hr⟩⟩
theorem aput_undef (d : Nat) (S : List AV) (t : Nat) : ∃ f : AV → AV, (∀ x, nomA [d] x = true → f x = x) ∧ (aput (some d) .undef S)[t]? = (S[t]?).map fun x => if t = d then .undef else f x := by
  simp only [aput]
  split
  · rename_i x hx
    have hlt : d < S.length := (List.getElem?_eq_some_iff.1 hx).1
    split
    · refine ⟨aun d, fun y hy => by rw [aun_nom, hy]; rfl, ?_⟩
      by_cases htd : t = d
      · subst htd
        simp [List.getElem?_set, hlt, aun, menA]
      · have hdt : ¬ d = t := fun e => htd e.symm
        simp [List.getElem?_set, htd, hdt]
    · refine ⟨id, fun _ _ => rfl, ?_⟩
      by_cases htd : t = d
      · subst htd
        simp [List.getElem?_set, hlt]
      · have hdt : ¬ d = t := fun e => htd e.symm
        simp [List.getElem?_set, htd, hdt]
  · rename_i hn
    have hge : S.length ≤ d := by simpa using hn
    refine ⟨id, fun _ _ => rfl, ?_⟩
    by_cases htd : t = d
    · subst htd
      simp [List.getElem?_eq_none hge]
    · simp [htd]
theorem clr_at : ∀ (ds : List Nat) (S : List AV) (t : Nat), (t ∉ ds → ∀ x, S[t]? = some x → nomA ds x = true) → (clr S ds)[t]? = (S[t]?).map fun x => if t ∈ ds then .undef else x := by
  intro ds
  induction ds with
  | nil => intro S t _; simp [clr]
  | cons d ds ih =>
    intro S t h
    simp only [clr]
    obtain ⟨f, hf, hput⟩ := aput_undef d S t
    have hfx : t ∉ d :: ds → ∀ x, S[t]? = some x → f x = x ∧ nomA ds x = true := by
      intro hm x hx
      have := h hm x hx
      rw [nomA_cons, Bool.and_eq_true] at this
      exact ⟨hf x this.1, this.2⟩
    rw [ih]
    · rw [hput, Option.map_map]
      cases hS : S[t]? with
      | none => rfl
      | some x =>
        simp only [Option.map_some, Function.comp, Option.some.injEq, List.mem_cons]
        by_cases htd : t = d
        · simp [htd]
        · by_cases h1 : t ∈ ds
          · simp [h1]
          · simp only [htd, h1, if_false, or_self]
            exact (hfx (by simp [htd, h1]) x hS).1
    · intro h1 y hy
      rw [hput] at hy
      cases hS : S[t]? with
      | none => simp [hS] at hy
      | some x =>
        simp only [hS, Option.map_some, Option.some.injEq] at hy
        by_cases htd : t = d
        · rw [if_pos htd] at hy; subst hy; rfl
        · rw [if_neg htd] at hy
          have := hfx (by simp [htd, h1]) x hS
          rw [this.1] at hy
          subst hy
          exact this.2
theorem rise_le : ∀ (ds : List Nat) (j : Nat), riseB j ds = true → ∀ k ∈ ds, j ≤ k
  | [], _, _, k, hk => by simp at hk
  | e :: ds, j, h, k, hk => by
    simp only [riseB, Bool.and_eq_true, decide_eq_true_eq] at h
    rcases List.mem_cons.1 hk with rfl | hk
    · exact h.1
    · have := rise_le ds (e + 1) h.2 k hk; omega
theorem clrG_at (all : List Nat) : ∀ (S : List AV) (i : Nat) (ds : List Nat), riseB i ds = true → keepB all i ds S = true → ∀ t, (clrG i ds S)[t]? = ((S[t]?).map fun x => if (i + t) ∈ ds then .undef else x) ∧ ((i + t) ∉ ds → ∀ x, S[t]? = some x → nomA all x = true)
  | [], i, ds, _, _, t => by cases ds <;> simp [clrG]
  | x :: S, i, [], _, hk, t => by
    simp only [keepB, Bool.and_eq_true] at hk
    cases t with
    | zero => simp [clrG, hk.1]
    | succ t =>
      have := clrG_at all S (i + 1) [] rfl hk.2 t
      simp only [clrG, List.getElem?_cons_succ]
      exact ⟨by simpa using this.1, fun _ => this.2 (by simp)⟩
  | x :: S, i, d :: ds, h, hk, t => by
    simp only [riseB, Bool.and_eq_true, decide_eq_true_eq] at h
    by_cases hid : i = d
    · subst hid
      simp only [keepB, beq_self_eq_true, cond_true] at hk
      simp only [clrG, beq_self_eq_true, cond_true]
      cases t with
      | zero => simp
      | succ t =>
        simp only [List.getElem?_cons_succ]
        have ih := clrG_at all S (i + 1) ds h.2 hk t
        have e : (i + (t + 1) ∈ i :: ds) ↔ (i + 1 + t ∈ ds) := by
          simp only [List.mem_cons]
          constructor
          · rintro (h | h)
            · omega
            · rw [show i + 1 + t = i + (t + 1) by omega]; exact h
          · intro h; right; rw [show i + (t + 1) = i + 1 + t by omega]; exact h
        simp only [e]
        exact ih
    · have hb : (i == d) = false := by simp [hid]
      simp only [keepB, hb, cond_false, Bool.and_eq_true] at hk
      simp only [clrG, hb, cond_false]
      have hr : riseB (i + 1) (d :: ds) = true := by simp only [riseB, Bool.and_eq_true, decide_eq_true_eq]; exact ⟨by omega, h.2⟩
      cases t with
      | zero =>
        have : i ∉ d :: ds := fun hm => by have := rise_le _ (i + 1) hr i hm; omega
        have h1 : ¬ i + 0 ∈ d :: ds := by simpa using this
        rw [List.getElem?_cons_zero, List.getElem?_cons_zero, Option.map_some, if_neg h1]
        refine ⟨rfl, fun _ y hy => ?_⟩
        simp only [Option.some.injEq] at hy
        subst hy
        exact hk.1
      | succ t =>
        simp only [List.getElem?_cons_succ]
        have ih := clrG_at all S (i + 1) (d :: ds) hr hk.2 t
        rw [show i + 1 + t = i + (t + 1) by omega] at ih
        exact ih
theorem clr_eq {ds : List Nat} {S : List AV} (h : riseB 0 ds = true) (hk : keepB ds 0 ds S = true) : clr S ds = clrG 0 ds S := by
  apply List.ext_getElem?
  intro t
  have := clrG_at ds S 0 ds h hk t
  rw [Nat.zero_add] at this
  rw [clr_at ds S t this.2, this.1]
/-- Kept out of sight of simp. -/
structure Kept (p : Prop) : Prop where
  out : p
/-- From here on, once the slots cl are cleared. -/
structure RestA (P : Program) (c : Code) (Q : Exit → List AV → Prop) (cl : List Nat) (S0 : List AV) : Prop where
  out : ∀ S, clr S cl = S0 → AW P c S Q
theorem rest_of {P : Program} {c : Code} {Q : Exit → List AV → Prop} {cl : List Nat} {S0 : List AV} (h : AW P c S0 Q) : RestA P c Q cl S0 := ⟨fun S e => aw_clr cl (by rw [e]; exact h)⟩
theorem rest_go {P : Program} {c : Code} {Q : Exit → List AV → Prop} {cl : List Nat} {S0 S : List AV} (h : RestA P c Q cl S0) (e : clr S cl = S0) : AW P c S Q := h.out S e
def csnd : Code → Code
  | .seq _ b => b
  | c => c
/-- What is left of a body behind its first n parts. -/
def cnth : Nat → Code → Code
  | 0, c => c
  | n + 1, c => cnth n (csnd c)
end Go.Bv
