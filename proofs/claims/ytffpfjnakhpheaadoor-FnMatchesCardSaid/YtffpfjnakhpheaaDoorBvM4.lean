/- Rules for by-value frames, generic, no program. -/
import Derived.Test.YtffpfjnakhpheaaDoorBvM3
/-! Calls that are handed what the frame owns; calls of function values. -/
namespace Go.Bv
open Go Go.RowKit
set_option linter.unusedSimpArgs false
set_option linter.unusedVariables false

section
variable {K : Nat → Prop} {w0 : World} {Z : Nat → Prop} {Sc L : List CV} {a : Act} {w : World} {P : Program} {Γ : Tab} {ops : Array Oper} {l : List Oper} {S : List AV} {N : List AV → Prop} {o : Oper}

/-- What was handed over is gone; a result stands in its place. -/
theorem Good.after {ys : List CV} (h : Good K w0 Z Sc ys a w) {Z' : Nat → Prop} {w' : World} {c : CV} (hZ : ∀ b, Z b → Z' b) (hZ' : ∀ b, Z' b → (Z b ∨ w.heap.size ≤ b) ∧ b < w'.heap.size) (hok : Ok w' Z' c)
    (hap : ∀ b ∈ fp c, ¬ Z' b) (hn : NR c) (hnd : (fp c).Nodup) (hown : ∀ b ∈ fp c, (b ∈ fps ys ∨ w.heap.size ≤ b) ∧ b < w'.heap.size) (hsame : ∀ b, b < w.heap.size → b ∉ fps ys → w'.heap[b]? = w.heap[b]?)
    (hgr : w.heap.size ≤ w'.heap.size) (hos : w'.os = w.os) (htp : w'.tape = w.tape) (hout : w'.output = w.output) : Good K w0 Z' Sc [c] a w' := by
  have hnod := h.nodup
  rw [fps_append, List.nodup_append] at hnod
  have hS : ∀ b ∈ fps Sc, b ∈ fps (Sc ++ ys) := fun b hb => by rw [fps_append]; exact List.mem_append_left _ hb
  have hY : ∀ b ∈ fps ys, b ∈ fps (Sc ++ ys) := fun b hb => by rw [fps_append]; exact List.mem_append_right _ hb
  have hlt : ∀ b ∈ fps Sc, b < w.heap.size := fun b hb => h.lt b (.inl (hS b hb))
  have hSY : ∀ b ∈ fps Sc, b ∉ fps ys := fun b hb hm => hnod.2.2 b hb b hm rfl
  have ef : fps (Sc ++ [c]) = fps Sc ++ fp c := by simp [fps_append, fps]
  refine { defers := h.defers, size := h.size, tmps := h.tmps, ok := ?_, nodup := ?_, apart := fun b hb => ?_, lt := fun b hb => ?_, refs := h.refs, wf := h.wf, sorted := h.sorted, nr := by simpa using hn, kept := fun b hk => ?_, os := hos.trans h.os, tape := htp.trans h.tape, output := hout.trans h.output, grew := Nat.le_trans h.grew hgr }
  · rw [okL_append]
    refine ⟨OkL.congr hZ (fun b hb => hsame b (h.lt b (.inr hb)) (fun hm => h.apart b (hY b hm) hb)) _ (fun b hb => hsame b (hlt b hb) (hSY b hb)) ((okL_append _ _).1 h.ok).1, by simpa [OkL] using hok⟩
  · rw [ef, List.nodup_append]
    refine ⟨hnod.1, hnd, fun x hx y hy e => ?_⟩
    subst e
    rcases (hown x hy).1 with h1 | h1
    · exact hSY x hx h1
    · have := hlt x hx; omega
  · rw [ef, List.mem_append] at hb
    rcases hb with hb | hb
    · intro hz
      rcases (hZ' b hz).1 with hz | hz
      · exact h.apart b (hS b hb) hz
      · have := hlt b hb; omega
    · exact hap b hb
  · rw [ef, List.mem_append] at hb
    rcases hb with (hb | hb) | hb
    · have := hlt b hb; omega
    · exact (hown b hb).2
    · exact (hZ' b hb).2
  · obtain ⟨k1, k2, k3⟩ := h.kept b hk
    refine ⟨k1, fun hm => ?_, (hsame b (Nat.lt_of_lt_of_le k1 h.grew) (fun hm => k2 (hY b hm))).trans k3⟩
    rw [ef, List.mem_append] at hm
    rcases hm with hm | hm
    · exact k2 (hS b hm)
    · rcases (hown b hm).1 with h1 | h1
      · exact k2 (hY b h1)
      · have := h.grew; omega

/-- A call that is handed its arguments: what they lean on goes with them. -/
theorem call_move {o : Oper} {f : Nat} {args : Array Operand} {ats : Array TypeId} (ho : o.op = .call { callee := .value (.func f), args, argTypes := ats }) (hf : ∀ vs w, (callFunc f vs).run P w = .ok (.enter f vs) w)
    {S vs vs' S1 : List AV} {r : AV} (hvs : ards S args.toList = some vs) (ht : atakes S vs = some (vs', S1)) (hS : Sound P f vs' r) : AO P o S (aput o.dst r S1) := ao_of fun K w0 Z0 a w hGK ⟨Z, Sc, z1, z2, hSc, hG⟩ Q => by
  subst hSc
  obtain ⟨ys, Sc', rfl, rfl, hG1, hpl, hval⟩ := parts_good hG hvs ht
  rw [List.append_nil] at hG1
  have hnd := hG1.nodup
  rw [fps_append, List.nodup_append] at hnd
  have hmem : ∀ b ∈ fps ys, b ∈ fps (Sc' ++ ys) := fun b hb => by rw [fps_append]; exact List.mem_append_right _ hb
  unfold Oper.wp
  rw [run_call ho hf]
  simp only [Oper.upon]
  have ha : args.map a.eval = (ys.map val).toArray := by rw [hval]; apply Array.ext'; simp
  rw [ha]
  refine Calls.mono (hS w Z ys rfl ((okL_append _ _).1 hG1.ok).2 hnd.2.1 (fun b hb => hG1.apart b (hmem b hb)) (fun b hb => hG1.lt b (hb.imp (hmem b) id)) hpl ((hG1.gw hGK).mono hmem)) fun e w' ⟨c, he, hc, hr⟩ => ?_
  subst he
  obtain ⟨Z', k1, k2, k3, k4⟩ := hr.ok
  have hG2 := hG1.after k1 k2 k3 k4 hr.nr hr.nodup hr.own hr.same hr.grew hr.os hr.tape hr.output
  refine ⟨Z', cput o.dst c Sc', fun b hb => k1 b (z1 b hb), fun b hb => ?_, by rw [er_cput, hc], hG2.put o.dst⟩
  rcases (k2 b hb).1 with h | h
  · exact z2 b h
  · exact .inr (Nat.le_trans hG.grew h)
theorem al_move {f : Nat} {args : Array Operand} {ats : Array TypeId} {vs vs' S1 S' : List AV} {r : AV} (hg : gchk ops S o = some true) (ho : o.op = .call { callee := .value (.func f), args, argTypes := ats }) (hf : ∀ vs w, (callFunc f vs).run P w = .ok (.enter f vs) w)
    (hvs : ards S args.toList = some vs) (ht : atakes S vs = some (vs', S1)) (hS : Sound P f vs' r) (hp : aput o.dst r S1 = S') (h : AL P false ops l S' N) : AL P false ops (o :: l) S N := by
  subst hp
  exact al_op hg (call_move ho hf hvs ht hS) h

theorem fps_rd : ∀ {cs : List CV}, (∀ c ∈ cs, Rd w Z Sc c ∧ (∀ ys, c ≠ .tup ys)) → fps cs = []
  | [], _ => rfl
  | c :: cs, h => by simp only [fps, (h c (by simp)).1.fp, fps_rd (cs := cs) fun c hc => h c (by simp [hc]), List.append_nil]
/-- A call that is handed its first argument and shown the others; its result leans on no memory but its own. -/
theorem call_mv {o : Oper} {f : Nat} {args : Array Operand} {ats : Array TypeId} (ho : o.op = .call { callee := .value (.func f), args, argTypes := ats }) (hf : ∀ vs w, (callFunc f vs).run P w = .ok (.enter f vs) w)
    {S vs ps S1 : List AV} {v v' r : AV} (hvs : ards S args.toList = some (v :: vs)) (hno : ((arefs v).any fun rp => hitAs rp.1 rp.2 vs) = false) (ht : atake S v = some (v', S1)) (hps : asnaps S1 vs = some ps) (hS : Sound P f (v' :: ps) r) (hn : noSh r = true) : AO P o S (aput o.dst r S1) := ao_of fun K w0 Z0 a w hGK ⟨Z, Sc, z1, z2, hSc, hG⟩ Q => by
  subst hSc
  obtain ⟨cs, h1, h2, h3⟩ := ards_sound hG _ _ hvs
  match cs, h1 with
  | c0 :: cs, h1 =>
  simp only [ers, List.cons.injEq] at h1
  obtain ⟨rfl, rfl⟩ := h1
  have r0 := h3 c0 (by simp)
  have h3' : ∀ c ∈ cs, Rd w Z Sc c ∧ (∀ ys, c ≠ .tup ys) := fun c hc => h3 c (by simp [hc])
  obtain ⟨y, Sc1, rfl, rfl, hG1, hfl, hpl, hag, hrf⟩ := take_good c0 Sc [] hG r0.1.refOk r0.1.wf r0.1.ok r0.1.fp v' S1 ht
  have hno' : ∀ rp ∈ refs c0, hits rp.1 rp.2 cs = false := by
    intro rp hrp
    have hx : ∀ x, ¬ (x ∈ arefs (er c0) ∧ hitAs x.1 x.2 (ers cs) = true) := by simpa using hno
    have := hx rp
    rw [refs_er, hits_er] at this
    cases hh : hits rp.1 rp.2 cs with
    | false => rfl
    | true => exact absurd ⟨hrp, hh⟩ this
  have hfps : fps cs = [] := fps_rd h3'
  obtain ⟨ds, d1, d2, d3, d4, d5, d6⟩ := snaps_goodL hG1 cs ((refOkL_iff _).2 fun c hc => hrf c (h3' c hc).1.refOk fun rp hrp => hits_mem hc (hno' rp hrp)) ((wfL_iff _).2 fun c hc => (h3' c hc).1.wf) ((okL_iff _).2 fun c hc => (h3' c hc).1.ok) hfps ps hps
  have e1 : ds.map val = ds.map val1 := List.map_congr_left fun c hc => val_of_val1 ((plL_iff _).1 d5 c hc).not_tup
  have e2 : cs.map val = cs.map val1 := List.map_congr_left fun c hc => val_of_val1 (h3' c hc).2
  have hval : (y :: ds).map val = args.toList.map a.eval := by
    rw [← h2, List.map_cons, List.map_cons, e1, d6, ← e2, val_same hfl hpl hag r0.2]
  have hnd := hG1.nodup
  rw [fps_append, List.nodup_append] at hnd
  have hfy : fps (y :: ds) = fp y := by simp [fps, d4]
  have hmem : ∀ b ∈ fp y, b ∈ fps (Sc1 ++ [y]) := fun b hb => by rw [fps_append]; simp [fps, hb]
  have hoky : Ok w Z y := by simpa [OkL] using ((okL_append _ _).1 hG1.ok).2
  unfold Oper.wp
  rw [run_call ho hf]
  simp only [Oper.upon]
  have ha : args.map a.eval = ((y :: ds).map val).toArray := by rw [hval]; apply Array.ext'; simp
  rw [ha]
  refine Calls.mono (hS w (Bv.belowL w [y]) (y :: ds) (by rw [ers, d1]) ?_ ?_ ?_ ?_ ⟨hpl, d5⟩ ((hG1.gw hGK).mono fun b hb => hmem b (by rw [hfy] at hb; exact hb))) fun e w' ⟨c, he, hc, hr⟩ => ?_
  · simp only [OkL]
    exact ⟨Ok.congr (w := w) (w' := w) hG1.belowL (fun _ _ => rfl) y (fun _ _ => rfl) hoky, d3⟩
  · rw [hfy]; simpa [fps] using hnd.2.1
  · rw [hfy]; intro b hb hz; exact hz.2 (by simpa [fps] using hb)
  · rw [hfy]; intro b hb
    rcases hb with hb | hb
    · exact hG1.lt b (.inl (hmem b hb))
    · exact hb.1
  subst he
  rw [hfy] at hr
  obtain ⟨Z', k1, k2, k3, k4⟩ := hr.ok
  have hok : Ok w' Z c := noSh_ok c (by rw [hc]; exact hn) k3
  have hown : ∀ b ∈ fp c, (b ∈ fps [y] ∨ w.heap.size ≤ b) ∧ b < w'.heap.size := fun b hb => by simpa [fps] using hr.own b hb
  have hG2 := hG1.after (Z' := Z) (fun b hb => hb) (fun b hb => ⟨.inl hb, Nat.lt_of_lt_of_le (hG1.lt b (.inr hb)) hr.grew⟩) hok (fun b hb hz => by
    rcases (hown b hb).1 with h | h
    · exact hG1.apart b (by rw [fps_append]; exact List.mem_append_right _ h) hz
    · have := hG1.lt b (.inr hz); omega) hr.nr hr.nodup hown (fun b hl hm => hr.same b hl (by simpa [fps] using hm)) hr.grew hr.os hr.tape hr.output
  exact ⟨Z, cput o.dst c Sc1, z1, z2, by rw [er_cput, hc], hG2.put o.dst⟩
theorem al_mv {f : Nat} {args : Array Operand} {ats : Array TypeId} {vs ps S1 S' : List AV} {v v' r : AV} (hg : gchk ops S o = some true) (ho : o.op = .call { callee := .value (.func f), args, argTypes := ats }) (hf : ∀ vs w, (callFunc f vs).run P w = .ok (.enter f vs) w)
    (hvs : ards S args.toList = some (v :: vs)) (hno : ((arefs v).any fun rp => hitAs rp.1 rp.2 vs) = false) (ht : atake S v = some (v', S1)) (hps : asnaps S1 vs = some ps) (hS : Sound P f (v' :: ps) r) (hn : noSh r = true) (hp : aput o.dst r S1 = S') (h : AL P false ops l S' N) : AL P false ops (o :: l) S N := by
  subst hp
  exact al_op hg (call_mv ho hf hvs hno ht hps hS hn) h

/-- No struct among them. -/
def noAgg (vs : List AV) : Bool := vs.all fun | .agg _ => false | _ => true
theorem run_callv {o : Oper} {x : Operand} {f : Nat} {caps : Array Value} {args : Array Operand} {ats : Array TypeId} (ho : o.op = .call { callee := .value x, args, argTypes := ats }) (hf : ∀ vs w, (callFunc f vs).run P w = .ok (.enter f vs) w) (hx : a.eval x = .func (.func f) #[] caps) :
    (execOp a.eval o).run P w = .ok (.enter f (args.map a.eval ++ caps)) w := by
  unfold execOp
  simp [ho, resolve, Deferred.ofValue, invoke, hx, hf, Sem.run_bind]
/-- What a function value may hold that is handed on: numbers, texts, pointers to what never turns. -/
def ipsA : List AV → Bool
  | [] => true
  | .ip x :: us => plA x && ipsA us
  | .int _ _ :: us => ipsA us
  | .bool _ :: us => ipsA us
  | .str _ :: us => ipsA us
  | _ :: _ => false
theorem asnaps_ips : ∀ {us : List AV}, ipsA us = true → ∀ S, asnaps S us = some us
  | [], _, S => rfl
  | .ip x :: us, h, S => by simp only [ipsA, Bool.and_eq_true] at h; simp [asnaps, asnap, h.1, asnaps_ips h.2 S]
  | .int _ _ :: us, h, S => by simp only [ipsA] at h; simp [asnaps, asnap, asnaps_ips h S]
  | .bool _ :: us, h, S => by simp only [ipsA] at h; simp [asnaps, asnap, asnaps_ips h S]
  | .str _ :: us, h, S => by simp only [ipsA] at h; simp [asnaps, asnap, asnaps_ips h S]
theorem ips_view : ∀ {us : List AV}, ipsA us = true → ∀ t q i, aviews t q i us = us
  | [], _, _, _, _ => rfl
  | .ip x :: us, h, t, q, i => by simp only [ipsA, Bool.and_eq_true] at h; simp [aviews, aview, ips_view h.2]
  | .int _ _ :: us, h, t, q, i => by simp only [ipsA] at h; simp [aviews, aview, ips_view h]
  | .bool _ :: us, h, t, q, i => by simp only [ipsA] at h; simp [aviews, aview, ips_view h]
  | .str _ :: us, h, t, q, i => by simp only [ipsA] at h; simp [aviews, aview, ips_view h]
theorem noAgg_ips : ∀ {us : List AV}, ipsA us = true → noAgg us = true
  | [], _ => rfl
  | .ip x :: us, h => by simp only [ipsA, Bool.and_eq_true] at h; have := noAgg_ips h.2; simp only [noAgg, List.all_cons] at this ⊢; simpa using this
  | .int _ _ :: us, h => by simp only [ipsA] at h; have := noAgg_ips h; simp only [noAgg, List.all_cons] at this ⊢; simpa using this
  | .bool _ :: us, h => by simp only [ipsA] at h; have := noAgg_ips h; simp only [noAgg, List.all_cons] at this ⊢; simpa using this
  | .str _ :: us, h => by simp only [ipsA] at h; have := noAgg_ips h; simp only [noAgg, List.all_cons] at this ⊢; simpa using this
/-- A call of a function value: shown its arguments and what it holds. -/
theorem callv_snap {o : Oper} {x : Operand} {f : Nat} {args : Array Operand} {ats : Array TypeId} (ho : o.op = .call { callee := .value x, args, argTypes := ats }) (hf : ∀ vs w, (callFunc f vs).run P w = .ok (.enter f vs) w)
    {S vs us ps : List AV} {r : AV} (hx : ard S x = some (.fn f us)) (hna : noAgg us = true) (hvs : ards S args.toList = some vs) (hps : asnaps S (vs ++ us) = some ps) (hS : Sound P f ps r) (hn : noSh r = true) : AO P o S (aput o.dst r S) := ao_of fun K w0 Z0 a w hGK ⟨Z, Sc, z1, z2, hSc, hG⟩ Q => by
  subst hSc
  obtain ⟨cs, h1, h2, h3⟩ := ards_sound hG _ _ hvs
  obtain ⟨g, g1, g2, g3, g4⟩ := hG.rd hx
  obtain ⟨xs, rfl, rfl⟩ := er_fn g1
  have hxr := g3.refOk
  have hxw := g3.wf
  have hxo := g3.ok
  have hxf := g3.fp
  simp only [RefOk] at hxr
  simp only [Wf] at hxw
  simp only [Ok] at hxo
  simp only [fp] at hxf
  have hna' : ∀ c ∈ xs, ∀ ys, c ≠ .agg ys := by
    rintro c hc ys rfl
    unfold noAgg at hna
    rw [List.all_eq_true] at hna
    have := hna (er (.agg ys)) (by rw [ers_eq]; exact List.mem_map_of_mem hc)
    simp [er] at this
  have hfps : fps cs = [] := by
    clear hvs h1 h2 hps
    induction cs with
    | nil => rfl
    | cons c cs ih => simp [fps, (h3 c (by simp)).1.fp, ih (fun c hc => h3 c (by simp [hc]))]
  obtain ⟨ds, d1, d2, d3, d4, d5, d6⟩ := snaps_good hG (cs ++ xs) ((refOkL_iff _).2 fun c hc => (List.mem_append.1 hc).elim (fun hc => (h3 c hc).1.refOk) (fun hc => (refOkL_iff _).1 hxr c hc))
    ((wfL_iff _).2 fun c hc => (List.mem_append.1 hc).elim (fun hc => (h3 c hc).1.wf) (fun hc => (wfL_iff _).1 hxw c hc))
    ((okL_append _ _).2 ⟨(okL_iff _).2 fun c hc => (h3 c hc).1.ok, hxo.2⟩) (by rw [fps_append, hfps, hxf]; rfl) ps (by rw [ers_append, h1]; exact hps)
  have e1 : ds.map val = ds.map val1 := List.map_congr_left fun c hc => val_of_val1 ((plL_iff _).1 d5 c hc).not_tup
  have e2 : cs.map val = cs.map val1 := List.map_congr_left fun c hc => val_of_val1 (h3 c hc).2
  have hev : a.eval x = .func (.func f) #[] (xs.map val1).toArray := by
    rw [← g2, ← flats_one hna']; rfl
  unfold Oper.wp
  rw [run_callv ho hf hev]
  simp only [Oper.upon]
  have ha : args.map a.eval ++ (xs.map val1).toArray = (ds.map val).toArray := by
    rw [e1, d6, List.map_append, ← e2, h2]; apply Array.ext'; simp
  rw [ha]
  refine Calls.mono (hS w (Bv.below w) ds d1 d3 (by simp [d4]) (by simp [d4]) (fun b hb => by simp only [d4, List.not_mem_nil, false_or] at hb; exact hb) d5 ((hG.gw hGK).mono (by simp [d4]))) fun e w' ⟨c, he, hc, hr⟩ => ?_
  subst he
  rw [d4] at hr
  obtain ⟨Z', k1, k2, k3, k4⟩ := hr.ok
  have hok : Ok w' Z c := noSh_ok c (by rw [hc]; exact hn) k3
  have hfr : ∀ b ∈ fp c, w.heap.size ≤ b ∧ b < w'.heap.size := fun b hb => ⟨by simpa using (hr.own b hb).1, (hr.own b hb).2⟩
  have hG2 := hG.fresh (fun b hb => hr.same b hb (by simp)) hr.grew hr.os hr.tape hr.output (Z' := Z) (fun b hb => hb) (fun b hb => ⟨.inl hb, Nat.lt_of_lt_of_le (hG.lt b (.inr hb)) hr.grew⟩) hok (fun b hb hz => by have := hG.lt b (.inr hz); have := (hfr b hb).1; omega) hr.nodup hfr hr.nr
  exact ⟨Z, cput o.dst c Sc, z1, z2, by rw [er_cput, hc], hG2.put o.dst⟩
theorem al_callv {x : Operand} {f : Nat} {args : Array Operand} {ats : Array TypeId} {vs us ps S' : List AV} {r : AV} (hg : gchk ops S o = some true) (ho : o.op = .call { callee := .value x, args, argTypes := ats })
    (hx : ard S x = some (.fn f us)) (hf : ∀ vs w, (callFunc f vs).run P w = .ok (.enter f vs) w) (hna : noAgg us = true) (hvs : ards S args.toList = some vs) (hps : asnaps S (vs ++ us) = some ps) (hS : Sound P f ps r) (hn : noSh r = true) (hp : aput o.dst r S = S')
    (h : AL P false ops l S' N) : AL P false ops (o :: l) S N := by
  subst hp
  exact al_op hg (callv_snap ho hf hx hna hvs hps hS hn) h
theorem as_skip {S' : List AV} (hg : gchk ops S o = some false) (hp : aput o.dst (.tup []) S = S') : AS P ops o S S' := .inr ⟨hg, hp⟩
end
attribute [go_sem] ipsA List.size_toArray List.length_nil
end Go.Bv

/-! clear of a part of a list that the frame owns. -/
namespace Go.Bv
open Go Go.RowKit
set_option linter.unusedSimpArgs false
set_option linter.unusedVariables false

mutual
/-- Does it lean on what lies below an element of slot r's list? -/
def deepA (r : Nat) : AV → Bool
  | .at r' q => r == r' && decide (2 ≤ q.length)
  | .ref r' q _ _ => r == r' && decide (1 ≤ q.length)
  | .agg xs => deepAs r xs
  | .tup xs => deepAs r xs
  | .fn _ xs => deepAs r xs
  | .ip x => deepA r x
  | _ => false
def deepAs (r : Nat) : List AV → Bool
  | [] => false
  | x :: xs => deepA r x || deepAs r xs
end
mutual
theorem deep_hit (r i : Nat) : ∀ x : CV, deepA r (er x) = false → hit r [i] x = false
  | .agg xs, h => by simp only [er, deepA, hit] at h ⊢; exact deeps_hit r i xs h
  | .tup xs, h => by simp only [er, deepA, hit] at h ⊢; exact deeps_hit r i xs h
  | .fn _ xs, h => by simp only [er, deepA, hit] at h ⊢; exact deeps_hit r i xs h
  | .ip _ x, h => by simp only [er, deepA, hit] at h ⊢; exact deep_hit r i x h
  | .at r' q _, h => by
    simp only [er, deepA, hit] at h ⊢
    cases hr : r == r'
    · simp
    · rw [hr] at h
      match q, h with
      | [], _ => simp [List.isPrefixOf]
      | [j], _ => by_cases e : i = j <;> simp [List.isPrefixOf, e]
      | j :: k :: q, h => simp at h
  | .ref r' q _ _ _, h => by
    simp only [er, deepA, hit] at h ⊢
    cases hr : r == r'
    · simp
    · rw [hr] at h
      match q, h with
      | [], _ => simp [List.isPrefixOf]
      | j :: q, h => simp at h
  | .undef _, _ | .bool _, _ | .int _ _, _ | .str _, _ | .lst _ _ _ _ _, _ | .box _ _ _, _ => by simp [hit]
theorem deeps_hit (r i : Nat) : ∀ xs : List CV, deepAs r (ers xs) = false → hits r [i] xs = false
  | [], _ => by simp [hits]
  | x :: xs, h => by
    simp only [ers, deepAs, Bool.or_eq_false_iff] at h
    simp only [hits, deep_hit r i x h.1, deeps_hit r i xs h.2, Bool.or_self]
end
theorem ips_pl : ∀ {us : List AV}, ipsA us = true → plAs us = true
  | [], _ => rfl
  | .ip x :: us, h => by simp only [ipsA, Bool.and_eq_true] at h; simp [plAs, plA, h.1, ips_pl h.2]
  | .int _ _ :: us, h => by simp only [ipsA] at h; simp [plAs, plA, ips_pl h]
  | .bool _ :: us, h => by simp only [ipsA] at h; simp [plAs, plA, ips_pl h]
  | .str _ :: us, h => by simp only [ipsA] at h; simp [plAs, plA, ips_pl h]
mutual
theorem plA_men (d : Nat) : ∀ x : AV, plA x = true → menA d x = false
  | .agg xs, h => by simp only [plA, menA] at h ⊢; exact plAs_men d xs h
  | .fn _ xs, h => by simp only [plA, menA] at h ⊢; exact plAs_men d xs h
  | .ip x, h => by simp only [plA, menA] at h ⊢; exact plA_men d x h
  | .lst _ _ _, _ | .bool _, _ | .int _ _, _ | .str _, _ => by simp [menA]
  | .at _ _, h | .ref _ _ _ _, h | .box _, h | .tup _, h | .undef, h => by simp [plA] at h
theorem plAs_men (d : Nat) : ∀ xs : List AV, plAs xs = true → menAs d xs = false
  | [], _ => by simp [menAs]
  | x :: xs, h => by simp only [plAs, Bool.and_eq_true] at h; simp [menAs, plA_men d x h.1, plAs_men d xs h.2]
end
mutual
theorem plA_hit (r : Nat) (p : List Nat) : ∀ x : AV, plA x = true → hitA r p x = false
  | .agg xs, h => by simp only [plA, hitA] at h ⊢; exact plAs_hit r p xs h
  | .fn _ xs, h => by simp only [plA, hitA] at h ⊢; exact plAs_hit r p xs h
  | .ip x, h => by simp only [plA, hitA] at h ⊢; exact plA_hit r p x h
  | .lst _ _ _, _ | .bool _, _ | .int _ _, _ | .str _, _ => by simp [hitA]
  | .at _ _, h | .ref _ _ _ _, h | .box _, h | .tup _, h | .undef, h => by simp [plA] at h
theorem plAs_hit (r : Nat) (p : List Nat) : ∀ xs : List AV, plAs xs = true → hitAs r p xs = false
  | [], _ => by simp [hitAs]
  | x :: xs, h => by simp only [plAs, Bool.and_eq_true] at h; simp [hitAs, plA_hit r p x h.1, plAs_hit r p xs h.2]
end
mutual
theorem plA_deep (r : Nat) : ∀ x : AV, plA x = true → deepA r x = false
  | .agg xs, h => by simp only [plA, deepA] at h ⊢; exact plAs_deep r xs h
  | .fn _ xs, h => by simp only [plA, deepA] at h ⊢; exact plAs_deep r xs h
  | .ip x, h => by simp only [plA, deepA] at h ⊢; exact plA_deep r x h
  | .lst _ _ _, _ | .bool _, _ | .int _ _, _ | .str _, _ => by simp [deepA]
  | .at _ _, h | .ref _ _ _ _, h | .box _, h | .tup _, h | .undef, h => by simp [plA] at h
theorem plAs_deep (r : Nat) : ∀ xs : List AV, plAs xs = true → deepAs r xs = false
  | [], _ => by simp [deepAs]
  | x :: xs, h => by simp only [plAs, Bool.and_eq_true] at h; simp [deepAs, plA_deep r x h.1, plAs_deep r xs h.2]
end
def deepAny (r : Nat) (S : List AV) : Bool := deepAs r S
theorem deepAny_hit {r : Nat} {Sc : List CV} (h : deepAny r (ers Sc) = false) : ∀ u ∈ Sc, ∀ i, hit r [i] u = false := by
  intro u hu i
  refine deep_hit r i u ?_
  unfold deepAny at h
  clear i
  induction Sc with
  | nil => cases hu
  | cons x xs ih =>
    simp only [ers, deepAs, Bool.or_eq_false_iff] at h
    rcases List.mem_cons.1 hu with rfl | hu
    · exact h.1
    · exact ih h.2 hu

section
variable {K : Nat → Prop} {w0 : World} {Z : Nat → Prop} {Sc L : List CV} {a : Act} {w : World} {P : Program} {Γ : Tab} {ops : Array Oper} {l : List Oper} {S : List AV} {N : List AV → Prop} {o : Oper}

theorem list_step {α : Type} (xs : List α) (lo n : Nat) (z : α) (h : lo + n < xs.length) :
    (xs.take lo ++ List.replicate n z ++ xs.drop (lo + n)).set (lo + n) z = xs.take lo ++ List.replicate (n + 1) z ++ xs.drop (lo + (n + 1)) := by
  have h1 : (xs.take lo ++ List.replicate n z).length = lo + n := by simp; omega
  rw [List.set_append_right _ _ (by omega), h1, Nat.sub_self, List.drop_eq_getElem_cons h]
  simp only [List.set_cons_zero, List.replicate_succ', List.append_assoc, List.cons_append, List.nil_append]
  rfl
theorem take_flats {s : Nat} : ∀ {xs : List CV}, (∀ x ∈ xs, (flat x).length = s) → ∀ k, (flats xs).take (k * s) = flats (xs.take k)
  | [], _, k => by simp [flats]
  | x :: xs, h, 0 => by simp [flats]
  | x :: xs, h, k + 1 => by
    have hx := h x (by simp)
    simp only [flats, List.take_succ_cons]
    rw [List.take_append, List.take_of_length_le (by rw [hx, Nat.add_mul]; omega), hx, show (k + 1) * s - s = k * s by rw [Nat.add_mul]; omega, take_flats (xs := xs) (fun y hy => h y (by simp [hy])) k]

/-- n cells of a list, from lo on, are set one by one. -/
theorem clear_good (h : Good K w0 Z Sc L a w) {r s c lo g off0 : Nat} {xs : List CV} (hx : Sc[r]? = some (.lst true s (some ⟨g, off0, none⟩) c xs)) {cz : CV} (hz : Pl cz) (hzf : fp cz = []) (hzk : ∀ w Z, Ok w Z cz) (hzl : (flat cz).length = s)
    (hno : ∀ u ∈ Sc, ∀ i, hit r [i] u = false) {cur : Array Value} {E : TypeId} (hb : w.heap[g]? = some (.cells cur E (0, 0))) (hroom : off0 + c * s ≤ cur.size) :
    ∀ n, lo + n ≤ xs.length → xs.length ≤ c → ∃ cur' : Array Value, cur'.toList = cur.toList.take (off0 + lo * s) ++ flats (List.replicate n cz) ++ cur.toList.drop (off0 + lo * s + n * s) ∧ cur'.size = cur.size ∧
      Good K w0 Z (Sc.set r (.lst true s (some ⟨g, off0, none⟩) c (xs.take lo ++ List.replicate n cz ++ xs.drop (lo + n)))) L a (w.setRow g cur')
  | 0, hl, hc => by
    refine ⟨cur, by simp [flats], rfl, ?_⟩
    rw [setRow_self w g cur E (0, 0) hb]
    have : xs.take lo ++ List.replicate 0 cz ++ xs.drop (lo + 0) = xs := by simp
    rw [this]
    have : Sc.set r (.lst true s (some ⟨g, off0, none⟩) c xs) = Sc := by
      apply List.ext_getElem?
      intro j
      rw [List.getElem?_set]
      split
      · rename_i e; subst e
        have hlt := (List.getElem?_eq_some_iff.1 hx).1
        rw [if_pos hlt, hx]
      · rfl
    rw [this]; exact h
  | n + 1, hl, hc => by
    obtain ⟨cur1, e1, e2, hG⟩ := clear_good h (lo := lo) hx hz hzf hzk hzl hno hb hroom n (by omega) hc
    have hrl := (List.getElem?_eq_some_iff.1 hx).1
    have hokx := ((okL_cut hx).1 ((okL_append _ _).1 h.ok).1).2.1
    simp only [Ok] at hokx
    have hall := hokx.2.1
    have hplx : Pl (.lst true s (some ⟨g, off0, none⟩) c xs) := by
      rcases h.sorted _ (List.mem_of_getElem? hx) with hn | hn
      · exact hn
      · simp [NoOwn] at hn
    simp only [Pl] at hplx
    obtain ⟨M, hM⟩ : ∃ M, M = xs.take lo ++ List.replicate n cz ++ xs.drop (lo + n) := ⟨_, rfl⟩
    rw [← hM] at hG
    have hMl : M.length = xs.length := by rw [hM]; simp; omega
    have hlt : lo + n < M.length := by omega
    have hy : M[lo + n]? = some M[lo + n] := List.getElem?_eq_getElem hlt
    have hMall : ∀ x ∈ M, (flat x).length = s := by
      intro x hx'
      rw [hM] at hx'
      simp only [List.mem_append, or_assoc] at hx'
      rcases hx' with hx' | hx' | hx'
      · exact hall x (List.mem_of_mem_take hx')
      · rw [List.eq_of_mem_replicate hx']; exact hzl
      · exact hall x (List.mem_of_mem_drop hx')
    have hMpl : PlL M := by
      rw [plL_iff] at hplx ⊢
      intro x hx'
      rw [hM] at hx'
      simp only [List.mem_append, or_assoc] at hx'
      rcases hx' with hx' | hx' | hx'
      · exact hplx x (List.mem_of_mem_take hx')
      · rw [List.eq_of_mem_replicate hx']; exact hz
      · exact hplx x (List.mem_of_mem_drop hx')
    obtain ⟨ys, hys⟩ : ∃ ys, ys = flats (List.replicate n cz) := ⟨_, rfl⟩
    have hyl : ys.length = n * s := by rw [hys, flats_len_of (s := s) (fun x hx => by rw [List.eq_of_mem_replicate hx]; exact hzl)]; simp
    have hls : lo * s + n * s + s ≤ c * s := by
      have : (lo + n + 1) * s ≤ c * s := Nat.mul_le_mul_right s (by omega)
      simpa [Nat.add_mul] using this
    have hx2 : (Sc.set r (.lst true s (some ⟨g, off0, none⟩) c M))[r]? = some (.lst true s (some ⟨g, off0, none⟩) c M) := List.getElem?_set_self hrl
    have hg2 : cgetN (rootC (.lst true s (some ⟨g, off0, none⟩) c M)).1 (rootC (.lst true s (some ⟨g, off0, none⟩) c M)).2 [lo + n] = some (M[lo + n], some ⟨g, off0 + (lo + n) * s, none⟩) := by
      simp only [rootC, cgetN]
      rw [hy]
      simp [cgetN, Addr.add]
    have hb1 : (w.setRow g cur1).heap[g]? = some (.cells cur1 E (0, 0)) := setRow_heap w g cur cur1 E (0, 0) hb
    have hyl2 : (flat M[lo + n]).length = s := hMall _ (List.getElem_mem hlt)
    have hr1 : off0 + (lo + n) * s + (flat cz).length ≤ cur1.size := by rw [hzl, e2, Nat.add_mul]; omega
    obtain ⟨hst, hnew⟩ := stored_setRow (w := w.setRow g cur1) (vs := flat cz) hb1 hr1
    rw [setRow_setRow] at hst hnew
    have hq : (flat M[lo + n]).length = (flat cz).length := by rw [hyl2, hzl]
    obtain ⟨hG2, _⟩ := (hG.add (hzk _ _) hzf hz.nr).store hx2 (by simpa only [rootC, Pl] using hMpl) hg2 hz (by rw [hzl, hyl2]) (by rw [hq]; exact hst) hnew (by simp) rfl rfl rfl
    refine ⟨(cur1.toList.take (off0 + (lo + n) * s) ++ flat cz ++ cur1.toList.drop (off0 + (lo + n) * s + (flat cz).length)).toArray, ?_, ?_, ?_⟩
    · simp only [e1, ← hys, hzl]
      have k1 : (cur.toList.take (off0 + lo * s) ++ ys).length = off0 + (lo + n) * s := by
        have : off0 + lo * s ≤ cur.size := by omega
        simp [hyl, Nat.add_mul]; omega
      rw [List.take_left' k1, List.drop_append, k1, show off0 + (lo + n) * s + s - (off0 + (lo + n) * s) = s by omega, List.drop_eq_nil_of_le (by omega), List.nil_append, List.drop_drop]
      have k2 : flats (List.replicate (n + 1) cz) = ys ++ flat cz := by
        rw [List.replicate_succ', flats_append, hys]; simp [flats]
      rw [k2, show off0 + lo * s + n * s + s = off0 + lo * s + (n + 1) * s by rw [Nat.add_mul]; omega]
      simp [List.append_assoc]
    · simp; rw [hzl]
      rw [Nat.add_mul]; omega
    · have hnoM : ∀ u ∈ cset (Sc.set r (.lst true s (some ⟨g, off0, none⟩) c M)) r [lo + n] cz, hit r [lo + n] u = false := by
        intro u hu
        unfold cset at hu
        rw [hx2] at hu
        simp only [List.set_set] at hu
        rcases List.mem_or_eq_of_mem_set hu with hu | rfl
        · exact hno u hu _
        · simp only [csetR, csetN]
          rw [hy]; rfl
      have hset : csetc (Sc.set r (.lst true s (some ⟨g, off0, none⟩) c M)) r [lo + n] cz = Sc.set r (.lst true s (some ⟨g, off0, none⟩) c (M.set (lo + n) cz)) := by
        unfold csetc
        rw [cclr_id hnoM]
        unfold cset
        rw [hx2]
        simp only [List.set_set, csetR, csetN]
        rw [hy]
      rw [hset] at hG2
      have hfin : M.set (lo + n) cz = xs.take lo ++ List.replicate (n + 1) cz ++ xs.drop (lo + (n + 1)) := by
        rw [hM]; exact list_step xs lo n cz (by omega)
      rw [hfin] at hG2
      exact hG2

theorem es_skip' {o : Oper} {v : Value} {w' : World} (hd : o.dst = none) (hr : (execOp a.eval o).run P w = .ok (.value v) w') {Sc' : List CV} {S2 : List AV} (he : ers Sc' = S2) (hg : Good K w0 Z Sc' L a w') : ES P K w0 Z L a w o S2 :=
  es_value hr he (by rw [hd]; exact hg)
theorem zeroCells_flats {v : Array Value} {cz : CV} (h : flat cz = v.toList) (n : Nat) : (Builtin.zeroCells v n).toList = flats (List.replicate n cz) := by
  apply List.ext_getElem?
  intro j
  have hlen : (flats (List.replicate n cz)).length = n * v.size := by
    rw [flats_len_of (s := v.size) (fun x hx => by rw [List.eq_of_mem_replicate hx, h]; simp)]; simp
  by_cases hj : j < n * v.size
  · have hv : (flats (List.replicate n cz))[j]? = some (flats (List.replicate n cz))[j] := List.getElem?_eq_getElem (by omega)
    obtain ⟨q1, _⟩ := flats_rep cz n j _ hv
    rw [hv, ← q1, h, Array.length_toList, Array.getElem?_toList]
    have hs0 : j % v.size < v.size := Nat.mod_lt _ (by rcases Nat.eq_zero_or_pos v.size with h0 | h0; · rw [h0] at hj; omega
                                                       · exact h0)
    rw [Array.getElem?_toList]
    simp only [Builtin.zeroCells, Array.getElem?_map]
    have hr : (Array.range (n * v.size))[j]? = some j := by simp [hj]
    rw [hr, Array.getElem?_eq_getElem hs0]
    simp only [Option.map_some, getElem!_pos v (j % v.size) hs0]
  · have hz : (Builtin.zeroCells v n).toList.length = n * v.size := by simp [Builtin.zeroCells]
    rw [List.getElem?_eq_none (by omega), List.getElem?_eq_none (by omega)]

theorem clear_AO (hT : TabOk P Γ) {T E r lo n s : Nat} {x : Operand} {z : AV} {xs : List AV} (ho : o.op = .call { callee := .builtin .clear, args := #[x], argTypes := #[T] }) (hdst : o.dst = none) (hk : Γ.kind T = .sl E) (hz : Γ.zero E = some z) (hx : ard S x = some (.ref r [] lo n))
    (hS : S[r]? = some (.lst true s xs)) (hsz : alen z = s) (hno : deepAny r S = false) : AO P o S (S.set r (.lst true s (xs.take lo ++ List.replicate n z ++ xs.drop (lo + n)))) :=
  es_AO fun K w0 Z Sc a w e h => by
    subst e
    obtain ⟨cx, ex, vx, hrd, _⟩ := h.rd hx
    obtain ⟨v, rfl⟩ := er_ref ex
    have hr := hrd.refOk
    simp only [RefOk] at hr
    obtain ⟨x0, s', A, c, cxs, l, h1, h2, h3, h4, h5⟩ := hr
    have hx0 : er x0 = .lst true s xs := by
      rw [ers_eq, List.getElem?_map, h1] at hS; simpa using hS
    obtain ⟨A', c', xs', rfl, hxs⟩ := er_lst hx0
    simp only [rootC, cgetN, Option.some.injEq, Prod.mk.injEq, CV.lst.injEq, true_and] at h3
    obtain ⟨⟨rfl, rfl, rfl, rfl⟩, rfl⟩ := h3
    obtain ⟨B, c2, rfl, k1, k2, k3, k4, k5⟩ := h5
    have hval : a.eval x = .slice B n c2 := by rw [← vx]; rfl
    obtain ⟨hp, i, zv, q1, q2, q3, q4⟩ := hT.zero E z hz
    obtain ⟨cz, e1, e2, e3, e4, e5⟩ := zcells_ok z hp
    have hokx := ((okL_cut h1).1 ((okL_append _ _).1 h.ok).1).2.1
    simp only [Ok] at hokx
    obtain ⟨⟨hnc, _, hown⟩, hall, _, _⟩ := hokx
    have hzl : (flat cz).length = s := by rw [← alen_er, e1]; exact hsz
    rcases Nat.eq_zero_or_pos n with hn | hn
    · subst hn
      refine es_skip' (w' := w) (Sc' := Sc) (v := .tuple #[]) hdst ?_ ?_ h
      · rw [run_builtin ho (vs := [.slice B 0 c2]) (by simp [hval])]
        cases B <;> simp [builtin, Builtin.clear_, run_underlying (hT.sl T E hk), Sem.run_bind]
      · rw [ers_eq]
        apply List.ext_getElem?
        intro j
        rw [List.getElem?_set]
        split
        · rename_i e; subst e
          have hlt := (List.getElem?_eq_some_iff.1 h1).1
          have hg : Sc[r] = .lst true s A' c' xs' := by rw [List.getElem?_eq_getElem hlt] at h1; simpa using h1
          simp [hlt, hg, er, hxs]
        · rfl
    · have hc0 : c' ≠ 0 := by omega
      obtain ⟨hs0, ad, cur, E', rfl, hsp, hb, hmx, hroom⟩ := hown rfl hc0
      obtain ⟨g, off0, sp⟩ := ad
      simp only at hsp hb hroom
      subst hsp
      have hB : B = some ⟨g, off0 + lo * s, none⟩ := by rw [k5 (by omega)]; simp [Addr.add]
      subst hB
      obtain ⟨cur', f1, f2, hG⟩ := clear_good h h1 (lo := lo) e3 e4 e5 hzl (deepAny_hit hno) hb hroom n h4 hnc
      have hvs : (Builtin.zeroCells zv.cells n).toList = flats (List.replicate n cz) := zeroCells_flats (by rw [e2, q3]) n
      have hfl : (flats (List.replicate n cz)).length = n * s := by rw [flats_len_of (s := s) (fun x hx => by rw [List.eq_of_mem_replicate hx]; exact hzl)]; simp
      have hls : lo * s + n * s ≤ c' * s := by
        have : (lo + n) * s ≤ c' * s := Nat.mul_le_mul_right s (by omega)
        simpa [Nat.add_mul] using this
      refine es_skip' (w' := w.setRow g cur') (Sc' := _) (v := .tuple #[]) hdst ?_ ?_ hG
      · have hcell := run_storeCells_at P g (off0 + lo * s) E' (flats (List.replicate n cz)) 0 cur w hb (by rw [hfl]; omega) (PlL.one _ ((plL_iff _).2 fun u hu => by rw [List.eq_of_mem_replicate hu]; exact e3))
        rw [run_builtin ho (vs := [.slice (some ⟨g, off0 + lo * s, none⟩) n c2]) (by simp [hval])]
        obtain ⟨n', rfl⟩ : ∃ n', n = n' + 1 := ⟨n - 1, by omega⟩
        simp only [Nat.add_zero] at hcell
        have hcc : (cur.toList.take (off0 + lo * s) ++ flats (List.replicate (n' + 1) cz) ++ cur.toList.drop (off0 + lo * s + (flats (List.replicate (n' + 1) cz)).length)).toArray = cur' := by
          apply Array.ext'; rw [f1, hfl]
        rw [hcc] at hcell
        simp [builtin, Builtin.clear_, run_underlying (hT.sl T E hk), Sem.run_bind, zeroValue, typeInfo, q1, q2, hvs, hcell]
      · rw [ers_eq, List.map_set, ← ers_eq]
        have : er (.lst true s (some ⟨g, off0, none⟩) c' (xs'.take lo ++ List.replicate n cz ++ xs'.drop (lo + n))) = .lst true s (xs.take lo ++ List.replicate n z ++ xs.drop (lo + n)) := by
          simp only [er, e1, ← hxs, ers_eq, List.map_append, List.map_take, List.map_drop, List.map_replicate]
        rw [this]
theorem al_clear (hT : TabOk P Γ) {T E r lo n s : Nat} {x : Operand} {z : AV} {xs S' : List AV} (hg : gchk ops S o = some true) (ho : o.op = .call { callee := .builtin .clear, args := #[x], argTypes := #[T] }) (hdst : o.dst = none) (hk : Γ.kind T = .sl E) (hz : Γ.zero E = some z)
    (hx : ard S x = some (.ref r [] lo n)) (hS : S[r]? = some (.lst true s xs)) (hsz : alen z = s) (hno : deepAny r S = false) (hp : S.set r (.lst true s (xs.take lo ++ List.replicate n z ++ xs.drop (lo + n))) = S') (h : AL P false ops l S' N) : AL P false ops (o :: l) S N := by
  subst hp
  exact al_op hg (clear_AO hT ho hdst hk hz hx hS hsz hno) h
end
attribute [go_sem] deepA deepAs deepAny alen
end Go.Bv

/-! Functions that are handed a pointer to a box of the caller's; their calls. -/
namespace Go.Bv
open Go Go.RowKit
set_option linter.unusedSimpArgs false
set_option linter.unusedVariables false

/-- Plain, or a box of what is plain. -/
def nrA : AV → Bool
  | .box y => plA y
  | y => plA y
theorem nr_er (x : CV) (h : nrA (er x) = true) : NR x := by
  cases x
  case box b ty z => simp only [er, nrA] at h; exact pl_er z h
  all_goals exact (pl_er _ (by simpa [er, nrA] using h)).nr
/-- Function f, of these arguments of which the t-th points to a box, returns r and leaves v there. -/
def SoundB (P : Program) (f : Nat) (args : List AV) (t : Nat) (r v : AV) : Prop :=
  ∀ (w : World) (Z0 : Nat → Prop) (cs : List CV), ers cs = args → OkL w Z0 cs → (fps cs).Nodup → (∀ b ∈ fps cs, ¬ Z0 b) → (∀ b, (b ∈ fps cs ∨ Z0 b) → b < w.heap.size) → (∀ x ∈ cs, NR x) → GW P w (fps cs) →
    Calls P f (cs.map val).toArray w (fun e w' => ∃ c d x, e = .returned (val c) ∧ er c = r ∧ er d = v ∧ cs[t]? = some x ∧ val d = val x ∧ NR c ∧ NR d ∧
      (∃ Z', (∀ b, Z0 b → Z' b) ∧ (∀ b, Z' b → (Z0 b ∨ w.heap.size ≤ b) ∧ b < w'.heap.size) ∧ OkL w' Z' [c, d] ∧ ∀ b ∈ fps [c, d], ¬ Z' b) ∧
      (fps [c, d]).Nodup ∧ (∀ b ∈ fps [c, d], (b ∈ fps cs ∨ w.heap.size ≤ b) ∧ b < w'.heap.size) ∧ (∀ b, b < w.heap.size → b ∉ fps cs → w'.heap[b]? = w.heap[b]?) ∧
      w.heap.size ≤ w'.heap.size ∧ w'.os = w.os ∧ w'.tape = w.tape ∧ w'.output = w.output)


section
variable {K : Nat → Prop} {w0 : World} {Z : Nat → Prop} {Sc L : List CV} {a : Act} {w : World} {P : Program} {Γ : Tab}
theorem sound_bodyB (hT : TabOk P Γ) {f : Nat} {fn : Func} {c : Code} (hf : P.funcs[f]? = some fn) (hb : fn.body = some c) {args : List AV} {t : Nat} {r v : AV} (hno : noDst t c = true) (htl : t < args.length) (hpv : nrA v = true)
    (hw : AW P c (frame args fn.ntmps) (endsM Γ fn.results.toList t r v)) : SoundB P f args t r v := by
  intro w Z0 cs hcs hok hnd hap hlt hpl hgw
  subst hcs
  have hl : (ers cs).length = cs.length := by simp [ers_eq]
  rw [hl] at htl
  have hx : cs[t]? = some cs[t] := List.getElem?_eq_getElem htl
  refine calls_of_wp hf hb ?_
  have hA : At (P := P) ⟨fun b => b < w.heap.size ∧ b ∉ fps cs, fun s => if s = t then some (val cs[t]) else none⟩ w Z0 (frame (ers cs) fn.ntmps) { tmps := (cs.map val).toArray ++ Array.replicate (fn.ntmps - (cs.map val).toArray.size) undef, defers := [] } w := by
    refine ⟨⟨Z0, cs ++ List.replicate (fn.ntmps - cs.length) (.undef undef), fun b h => h, fun b h => .inl h, by rw [ers_append, ers_undef, frame, hl], ?_⟩, fun s u hs => ?_, hgw⟩
    · have ef : fps ((cs ++ List.replicate (fn.ntmps - cs.length) (.undef undef)) ++ []) = fps cs := by simp [fps_append, fps_undef]
      refine { defers := rfl, size := by simp, tmps := fun t ht => ?_, ok := ?_, nodup := by rw [ef]; exact hnd, apart := by rw [ef]; exact hap, lt := fun b hb' => ?_, refs := fun x hx => ?_, wf := fun x hx => ?_, sorted := fun x hx => ?_, nr := by simp,
               kept := fun b hk => ⟨hk.1, by rw [ef]; exact hk.2, rfl⟩, os := rfl, tape := rfl, output := rfl, grew := Nat.le_refl _ }
      · simp only [Array.getElem?_append, List.size_toArray, List.length_map, List.getElem?_append]
        split
        · simp
        · rename_i hge
          have ht' : t < cs.length + (fn.ntmps - cs.length) := by simpa using ht
          simp only [List.getElem?_replicate, Array.getElem?_replicate]
          have : t - cs.length < fn.ntmps - cs.length := by omega
          simp [this, val, val1, flat]
      · rw [List.append_nil, okL_append]
        refine ⟨hok, (okL_iff _).2 fun x hx => ?_⟩
        rw [List.eq_of_mem_replicate hx]; simp [Ok]
      · rw [ef] at hb'; exact hlt b hb'
      · rcases List.mem_append.1 hx with hx | hx
        · exact (hpl x hx).refOk
        · rw [List.eq_of_mem_replicate hx]; simp [RefOk]
      · rcases List.mem_append.1 hx with hx | hx
        · exact (hpl x hx).wf
        · rw [List.eq_of_mem_replicate hx]; simp [Wf]
      · rcases List.mem_append.1 hx with hx | hx
        · exact .inl (hpl x hx)
        · rw [List.eq_of_mem_replicate hx]; exact .inr (by simp [NoOwn])
    · simp only at hs
      split at hs
      · rename_i e
        subst e
        simp only [Option.some.injEq] at hs
        rw [Array.getElem?_append_left (by simpa using htl)]
        simp [htl, hs]
      · cases hs
  have hfin : ∀ S' a' w', At (P := P) ⟨fun b => b < w.heap.size ∧ b ∉ fps cs, fun s => if s = t then some (val cs[t]) else none⟩ w Z0 S' a' w' → aresM Γ fn.results.toList S' t = some (r, v) →
      a'.defers = [] ∧ ∃ u, (results fn a'.tmps).run P w' = .ok u w' ∧ ∃ c d x, Ending.returned u = .returned (val c) ∧ er c = r ∧ er d = v ∧ cs[t]? = some x ∧ val d = val x ∧ NR c ∧ NR d ∧
      (∃ Z', (∀ b, Z0 b → Z' b) ∧ (∀ b, Z' b → (Z0 b ∨ w.heap.size ≤ b) ∧ b < w'.heap.size) ∧ OkL w' Z' [c, d] ∧ ∀ b ∈ fps [c, d], ¬ Z' b) ∧
      (fps [c, d]).Nodup ∧ (∀ b ∈ fps [c, d], (b ∈ fps cs ∨ w.heap.size ≤ b) ∧ b < w'.heap.size) ∧ (∀ b, b < w.heap.size → b ∉ fps cs → w'.heap[b]? = w.heap[b]?) ∧
      w.heap.size ≤ w'.heap.size ∧ w'.os = w.os ∧ w'.tape = w.tape ∧ w'.output = w.output := by
    intro S' a' w' hA' hr
    obtain ⟨⟨Z, Sc, z1, z2, rfl, hG⟩, hfx⟩ := hA'
    refine ⟨hG.defers, ?_⟩
    have hfx' : a'.tmps[t]? = some (val cs[t]) := hfx.1 t _ (by simp)
    unfold aresM at hr
    cases hL : aresL Γ fn.results.toList (ers Sc) with
    | none => simp [hL] at hr
    | some q =>
      obtain ⟨vs, S2⟩ := q
      obtain ⟨ys, Sc', e1, e2, hG2, hpl2, hrun⟩ := aresL_good hT _ hG hL
      have hrr := run_results hrun
      rw [hL] at hr
      simp only at hr
      cases hS2 : S2[t]? with
      | none => simp [hS2] at hr
      | some v' =>
      simp only [hS2, Option.some.injEq, Prod.mk.injEq] at hr
      obtain ⟨hr, rfl⟩ := hr
      obtain ⟨d, hd, hdv⟩ : ∃ d, Sc'[t]? = some d ∧ er d = v' := by
        rw [← e2, ers_eq, List.getElem?_map] at hS2
        cases hq : Sc'[t]? with
        | none => simp [hq] at hS2
        | some d => simp only [hq, Option.map_some, Option.some.injEq] at hS2; exact ⟨d, rfl, hS2⟩
      have hpd : NR d := nr_er d (by rw [hdv]; exact hpv)
      have hvd : val d = val cs[t] := by
        have hlt' : t < a'.tmps.size := (Array.getElem?_eq_some_iff.1 hfx').1
        have := hG2.tmps t hlt'
        rw [hfx', hd] at this
        simpa using this.symm
      have hmd : ∀ b ∈ fp d, b ∈ fps Sc' := fun b hb => mem_fps.2 ⟨d, List.mem_of_getElem? hd, hb⟩
      have hndd : (fp d).Nodup := by
        have := hG2.nodup
        rw [fps_append, fps_cut hd] at this
        exact (List.nodup_append.1 (List.nodup_append.1 (List.nodup_append.1 this).1).2.1).1
      have hdok : Ok w' Z d := ((okL_cut hd).1 ((okL_append _ _).1 hG2.ok).1).2.1
      have hokL : OkL w' Z ys := ((okL_append _ _).1 ((okL_append _ _).1 hG2.ok).2).1
      have key : ∀ c : CV, er c = resV vs → resVal (ys.map val1) = val c → NR c → fp c = fps ys → Ok w' Z c →
          ∃ u, (results fn a'.tmps).run P w' = .ok u w' ∧ ∃ c d x, Ending.returned u = .returned (val c) ∧ er c = r ∧ er d = v' ∧ cs[t]? = some x ∧ val d = val x ∧ NR c ∧ NR d ∧
      (∃ Z', (∀ b, Z0 b → Z' b) ∧ (∀ b, Z' b → (Z0 b ∨ w.heap.size ≤ b) ∧ b < w'.heap.size) ∧ OkL w' Z' [c, d] ∧ ∀ b ∈ fps [c, d], ¬ Z' b) ∧
      (fps [c, d]).Nodup ∧ (∀ b ∈ fps [c, d], (b ∈ fps cs ∨ w.heap.size ≤ b) ∧ b < w'.heap.size) ∧ (∀ b, b < w.heap.size → b ∉ fps cs → w'.heap[b]? = w.heap[b]?) ∧
      w.heap.size ≤ w'.heap.size ∧ w'.os = w.os ∧ w'.tape = w.tape ∧ w'.output = w.output := by
        intro c hc hv hn hfc hkc
        have hall : ∀ b ∈ fps [c, d], b ∈ fps (Sc' ++ (ys ++ [])) := fun b hb => by
          simp only [fps, List.append_nil, List.mem_append, fps_append] at hb ⊢
          rcases hb with hb | hb
          · exact .inr (by rw [hfc] at hb; exact hb)
          · exact .inl (hmd b hb)
        refine ⟨_, hrr, c, d, cs[t], by rw [hv], by rw [hc, hr], hdv, hx, hvd, hn, hpd, ⟨Z, z1, fun b hb => ⟨z2 b hb, hG2.lt b (.inr hb)⟩, ?_, fun b hb => hG2.apart b (hall b hb)⟩, ?_, fun b hb => ⟨?_, hG2.lt b (.inl (hall b hb))⟩,
          fun b h1 h2 => (hG2.kept b ⟨h1, h2⟩).2.2, hG2.grew, hG2.os, hG2.tape, hG2.output⟩
        · simp only [OkL]; exact ⟨hkc, hdok, trivial⟩
        · simp only [fps, List.append_nil, hfc]
          have := hG2.nodup
          rw [List.append_nil, fps_append] at this
          have h2 := List.nodup_append.1 this
          rw [List.nodup_append]
          exact ⟨h2.2.1, hndd, fun u hu v hv e => h2.2.2 v (hmd v hv) u hu e.symm⟩
        · by_cases hk : b < w.heap.size
          · by_cases hm : b ∈ fps cs
            · exact .inl hm
            · exact absurd (hall b hb) (hG2.kept b ⟨hk, hm⟩).2.1
          · exact .inr (by omega)
      by_cases h1 : ∃ y, ys = [y]
      · obtain ⟨y, rfl⟩ := h1
        have hply : Pl y := by simpa [PlL] using hpl2
        refine key y ?_ ?_ hply.nr (by simp [fps]) (by simpa [OkL] using hokL)
        · rw [← e1]; simp [ers, resV]
        · simp [resVal, val_of_val1 hply.not_tup]
      · refine key (.tup ys) ?_ ?_ ?_ (by simp [fp]) (by simpa [Ok] using hokL)
        · match vs, ys, e1, h1 with
          | [], [], _, _ => simp [er, ers, resV]
          | [_], [y], _, h1 => exact absurd ⟨y, rfl⟩ h1
          | u1 :: u2 :: us, y1 :: y2 :: zs, e1, _ => simp only [er, resV]; rw [e1]
        · have : resVal (ys.map val1) = Value.tuple (ys.map val1).toArray := by
            match ys, h1 with
            | [], _ => rfl
            | [y], h1 => exact absurd ⟨y, rfl⟩ h1
            | _ :: _ :: _, _ => rfl
          rw [this]; simp [val]
        · simp only [NR]
          intro u hu
          exact .inr ((plL_iff _).1 hpl2 u hu)
  refine wp_mono (hw _ _ _ _ _ (frees_of hno) hA) fun e a' w' ⟨S', q, hS'⟩ => ?_
  cases e with
  | normal => exact hfin S' a' w' hS' q
  | ret => exact hfin S' a' w' hS' q
  | _ => exact q.elim


theorem cclr_len (r : Nat) (p : List Nat) (Sc : List CV) : (cclr r p Sc).length = Sc.length := by simp [cclr]
theorem cclr_at (r : Nat) (p : List Nat) (Sc : List CV) (t : Nat) : (cclr r p Sc)[t]? = (Sc[t]?).map fun x => if hit r p x then .undef (val x) else x := by simp [cclr]
mutual
theorem RefOk.lendB {r b : Nat} {ty ty' : TypeId} {z z' : CV} (hx : Sc[r]? = some (.box b ty z)) (hz' : Pl z') : ∀ x : CV, hit r [] x = false → RefOk Sc x → RefOk ((cclr r [] Sc).set r (.box b ty' z')) x
  | .at r' q ad, hh, h => by
    simp only [Bv.hit] at hh
    simp only [RefOk] at h ⊢
    obtain ⟨x1, y1, h1, h2, h3⟩ := h
    have hl := (List.getElem?_eq_some_iff.1 hx).1
    by_cases e : r' = r
    · subst e
      rw [hx] at h1; cases h1
      have hq : q = [] := by
        cases q with
        | nil => rfl
        | cons i q => simp at hh
      subst hq
      simp only [rootC, cgetN, Option.some.injEq, Prod.mk.injEq] at h3
      obtain ⟨rfl, rfl⟩ := h3
      exact ⟨.box b ty' z', z', by rw [List.getElem?_set_self (by rw [cclr_len]; exact hl)], by simpa [rootC] using hz', by simp [rootC, cgetN]⟩
    · refine ⟨x1, y1, ?_, h2, h3⟩
      rw [List.getElem?_set_ne (fun e' => e e'.symm), cclr_at, h1]
      simp [root_hit h2]
  | .ref r' q lo n v, hh, h => by
    simp only [Bv.hit] at hh
    simp only [RefOk] at h ⊢
    obtain ⟨x1, s, A, c, xs, l, h1, h2, h3, h4, h5⟩ := h
    by_cases e : r' = r
    · subst e; simp at hh
    · refine ⟨x1, s, A, c, xs, l, ?_, h2, h3, h4, h5⟩
      rw [List.getElem?_set_ne (fun e' => e e'.symm), cclr_at, h1]
      simp [root_hit h2]
  | .agg xs, hh, h => by simp only [Bv.hit, RefOk] at hh h ⊢; exact RefOkL.lendB hx hz' xs hh h
  | .tup xs, hh, h => by simp only [Bv.hit, RefOk] at hh h ⊢; exact RefOkL.lendB hx hz' xs hh h
  | .fn _ xs, hh, h => by simp only [Bv.hit, RefOk] at hh h ⊢; exact RefOkL.lendB hx hz' xs hh h
  | .ip _ x, hh, h => by simp only [Bv.hit, RefOk] at hh h ⊢; exact RefOk.lendB hx hz' x hh h
  | .undef _, _, _ | .bool _, _, _ | .int _ _, _, _ | .str _, _, _ | .lst _ _ _ _ _, _, _ | .box _ _ _, _, _ => by simp [RefOk]
theorem RefOkL.lendB {r b : Nat} {ty ty' : TypeId} {z z' : CV} (hx : Sc[r]? = some (.box b ty z)) (hz' : Pl z') : ∀ xs : List CV, hits r [] xs = false → RefOkL Sc xs → RefOkL ((cclr r [] Sc).set r (.box b ty' z')) xs
  | [], _, _ => by simp [RefOkL]
  | x :: xs, hh, h => by
    simp only [hits, Bool.or_eq_false_iff] at hh
    simp only [RefOkL] at h ⊢
    exact ⟨RefOk.lendB hx hz' x hh.1 h.1, RefOkL.lendB hx hz' xs hh.2 h.2⟩
end
theorem fps_cclr (r : Nat) (p : List Nat) : ∀ xs : List CV, (fps (cclr r p xs)).Sublist (fps xs)
  | [] => by simp [cclr, fps]
  | x :: xs => by
    have := fps_cclr r p xs
    simp only [cclr, List.map_cons, fps] at this ⊢
    refine List.Sublist.append ?_ this
    split
    · simp [fp]
    · exact List.Sublist.refl _
theorem okL_cclr {r : Nat} {p : List Nat} {xs : List CV} (h : OkL w Z xs) : OkL w Z (cclr r p xs) := by
  rw [okL_iff] at h ⊢
  intro u hu
  simp only [cclr, List.mem_map] at hu
  obtain ⟨v, hv, rfl⟩ := hu
  split
  · simp [Ok]
  · exact h v hv
/-- What is left behind a call that was handed a pointer to slot r's box. -/
theorem Good.lendB (h : Good K w0 Z Sc [] a w) {r b : Nat} {ty ty' : TypeId} {z z' c : CV} (hx : Sc[r]? = some (.box b ty z)) (hz' : Pl z') {w' : World} {Z' : Nat → Prop} (hz1 : ∀ b, Z b → Z' b) (hz2 : ∀ b, Z' b → (Z b ∨ w.heap.size ≤ b) ∧ b < w'.heap.size)
    (hok : OkL w' Z' [c, .box b ty' z']) (hap : ∀ u ∈ fps [c, .box b ty' z'], ¬ Z' u) (hnc : NR c) (hnd : (fps [c, .box b ty' z']).Nodup) (hown : ∀ u ∈ fps [c, .box b ty' z'], (u ∈ fp (.box b ty z) ∨ w.heap.size ≤ u) ∧ u < w'.heap.size)
    (hsame : ∀ u, u < w.heap.size → u ∉ fp (.box b ty z) → w'.heap[u]? = w.heap[u]?) (hgr : w.heap.size ≤ w'.heap.size) (ho : w'.os = w.os) (ht : w'.tape = w.tape) (hu : w'.output = w.output) :
    Good K w0 Z' ((cclr r [] Sc).set r (.box b ty' z')) [c] a w' := by
  have hl := (List.getElem?_eq_some_iff.1 hx).1
  have hfS : fps (Sc ++ []) = fps Sc := by simp
  have hnodS : (fps Sc).Nodup := by have := h.nodup; rwa [hfS] at this
  have hltS : ∀ u ∈ fps Sc, u < w.heap.size := fun u hu => h.lt u (.inl (by rw [hfS]; exact hu))
  have hapS : ∀ u ∈ fps Sc, ¬ Z u := fun u hu => h.apart u (by rw [hfS]; exact hu)
  have hcx : (cclr r [] Sc)[r]? = some (.box b ty z) := by rw [cclr_at, hx]; simp [Bv.hit]
  obtain ⟨A, hA⟩ : ∃ A, A = fps ((cclr r [] Sc).take r) := ⟨_, rfl⟩
  obtain ⟨B, hB⟩ : ∃ B, B = fps ((cclr r [] Sc).drop (r + 1)) := ⟨_, rfl⟩
  have hs1 : A.Sublist (fps (Sc.take r)) := by
    rw [hA]; have := fps_cclr r [] (Sc.take r); simpa [cclr, List.map_take] using this
  have hs2 : B.Sublist (fps (Sc.drop (r + 1))) := by
    rw [hB]; have := fps_cclr r [] (Sc.drop (r + 1)); simpa [cclr, List.map_drop] using this
  have hold : fps Sc = fps (Sc.take r) ++ (fp (.box b ty z) ++ fps (Sc.drop (r + 1))) := fps_cut hx
  have hnew : fps ((cclr r [] Sc).set r (.box b ty' z')) = A ++ (fp (.box b ty' z') ++ B) := by
    rw [set_at _ hcx, fps_append, hA, hB]; simp [fps]
  have hndo := hnodS
  rw [hold, List.nodup_append, List.nodup_append (l₁ := fp (.box b ty z))] at hndo
  obtain ⟨n1, ⟨n2, n3, n4⟩, n5⟩ := hndo
  have hAB : ∀ u, (u ∈ A ∨ u ∈ B) → u ∈ fps Sc ∧ u ∉ fp (.box b ty z) := fun u hu => by
    rcases hu with hu | hu
    · exact ⟨by rw [hold]; exact List.mem_append.2 (.inl (hs1.subset hu)), fun hy => n5 u (hs1.subset hu) u (List.mem_append.2 (.inl hy)) rfl⟩
    · exact ⟨by rw [hold]; exact List.mem_append.2 (.inr (List.mem_append.2 (.inr (hs2.subset hu)))), fun hy => n4 u hy u (hs2.subset hu) rfl⟩
  have hABn : (A ++ B).Nodup := by
    rw [List.nodup_append]
    exact ⟨hs1.nodup n1, hs2.nodup n3, fun u hu v hv => n5 u (hs1.subset hu) v (List.mem_append.2 (.inr (hs2.subset hv)))⟩
  have hsameAB : ∀ u, (u ∈ A ∨ u ∈ B) → w'.heap[u]? = w.heap[u]? := fun u hu => hsame u (hltS u (hAB u hu).1) (hAB u hu).2
  have hyS : ∀ u ∈ fp (.box b ty z), u ∈ fps Sc := fun u hu => by rw [hold]; exact List.mem_append.2 (.inr (List.mem_append.2 (.inl hu)))
  have hsameZ : ∀ u, Z u → w'.heap[u]? = w.heap[u]? := fun u hu => hsame u (h.lt u (.inr hu)) (fun hy => hapS u (hyS u hy) hu)
  have hd' : Ok w' Z' (.box b ty' z') ∧ Ok w' Z' c := by simp only [OkL] at hok; exact ⟨hok.2.1, hok.1⟩
  have hcl : OkL w Z (cclr r [] Sc) := okL_cclr ((okL_append _ _).1 h.ok).1
  have hc3 := (okL_cut hcx).1 hcl
  have hmemn : ∀ u, u ∈ fps ((cclr r [] Sc).set r (.box b ty' z') ++ [c]) → (u ∈ A ∨ u ∈ B) ∨ u ∈ fps [c, .box b ty' z'] := fun u hu => by
    rw [fps_append, hnew] at hu
    simp only [fps, List.append_nil, List.mem_append] at hu ⊢
    rcases hu with (hu | hu | hu) | hu
    · exact .inl (.inl hu)
    · exact .inr (.inr hu)
    · exact .inl (.inr hu)
    · exact .inr (.inl hu)
  have hget : ∀ x ∈ (cclr r [] Sc).set r (.box b ty' z'), x = .box b ty' z' ∨ ∃ u ∈ Sc, x = if hit r [] u then .undef (val u) else u := by
    intro x hx'
    rcases List.mem_or_eq_of_mem_set hx' with hx' | hx'
    · simp only [cclr, List.mem_map] at hx'
      obtain ⟨u, hu, rfl⟩ := hx'
      exact .inr ⟨u, hu, rfl⟩
    · exact .inl hx'
  refine { defers := h.defers, size := by simpa [cclr_len] using h.size, tmps := fun t ht' => ?_, ok := ?_, nodup := ?_, apart := fun u hu => ?_, lt := fun u hu => ?_, refs := fun x hx' => ?_, wf := fun x hx' => ?_, sorted := fun x hx' => ?_,
           nr := fun x hx' => ?_, kept := fun u hk => ?_, os := ho.trans h.os, tape := ht.trans h.tape, output := hu.trans h.output, grew := Nat.le_trans h.grew hgr }
  · rw [h.tmps t ht', List.getElem?_set]
    split
    · rename_i e; subst e; rw [hx, cclr_len, if_pos hl]; rfl
    · rw [cclr_at]
      cases Sc[t]? with
      | none => rfl
      | some u => simp only [Option.map_some]; split <;> simp [val_undef]
  · rw [okL_append]
    refine ⟨?_, by simpa [OkL] using hd'.2⟩
    rw [okL_set hcx]
    exact ⟨OkL.congr hz1 hsameZ _ (fun u hu => hsameAB u (by rw [hA]; exact .inl hu)) hc3.1, hd'.1, OkL.congr hz1 hsameZ _ (fun u hu => hsameAB u (by rw [hB]; exact .inr hu)) hc3.2.2⟩
  · rw [fps_append, hnew]
    have hpm : (A ++ (fp (.box b ty' z') ++ B) ++ fps [c]).Perm ((A ++ B) ++ fps [c, .box b ty' z']) := by
      simp only [fps, List.append_nil]
      rw [List.append_assoc, List.append_assoc, List.append_assoc]
      refine List.Perm.append_left _ ?_
      rw [← List.append_assoc B (fp c) (fp (.box b ty' z'))]
      exact List.perm_append_comm
    rw [hpm.nodup_iff, List.nodup_append]
    refine ⟨hABn, hnd, fun u hu' v hv e => ?_⟩
    subst e
    have h1 := hAB u (List.mem_append.1 hu')
    rcases (hown u hv).1 with h2 | h2
    · exact h1.2 h2
    · have := hltS u h1.1; omega
  · rcases hmemn u hu with hu | hu
    · intro hz
      have h1 := hAB u hu
      rcases (hz2 u hz).1 with h2 | h2
      · exact hapS u h1.1 h2
      · have := hltS u h1.1; omega
    · exact hap u hu
  · rcases hu with hu | hu
    · rcases hmemn u hu with hu | hu
      · have := hltS u (hAB u hu).1; omega
      · exact (hown u hu).2
    · exact (hz2 u hu).2
  · rcases hget x hx' with rfl | ⟨u, hu, rfl⟩
    · simp [RefOk]
    · split
      · simp [RefOk]
      · rename_i hh; exact RefOk.lendB hx hz' u (by simpa using hh) (h.refs u hu)
  · rcases hget x hx' with rfl | ⟨u, hu, rfl⟩
    · simpa only [Wf] using hz'
    · split
      · simp [Wf]
      · exact h.wf u hu
  · rcases hget x hx' with rfl | ⟨u, hu, rfl⟩
    · exact .inl hz'
    · split
      · exact .inr (by simp [NoOwn])
      · exact h.sorted u hu
  · simp only [List.mem_singleton] at hx'; subst hx'; exact hnc
  · obtain ⟨k1, k2, k3⟩ := h.kept u hk
    rw [hfS] at k2
    refine ⟨k1, fun hm => ?_, (hsame u (Nat.lt_of_lt_of_le k1 h.grew) (fun hm => k2 (hyS u hm))).trans k3⟩
    rcases hmemn u hm with hm | hm
    · exact k2 (hAB u hm).1
    · rcases (hown u hm).1 with h1 | h1
      · exact k2 (hyS u h1)
      · have := h.grew; omega

theorem call_lendB {o : Oper} {f : Nat} {args : Array Operand} {ats : Array TypeId} (ho : o.op = .call { callee := .value (.func f), args, argTypes := ats }) (hf : ∀ vs w, (callFunc f vs).run P w = .ok (.enter f vs) w)
    {S vs : List AV} {r : Nat} {y v rv : AV} (hvs : ards S args.toList = some (.at r [] :: vs)) (hx : S[r]? = some (.box y)) (hy : plA y = true) (hpl : plAs vs = true) (hS : SoundB P f (.box y :: vs) 0 rv (.box v)) (hv : plA v = true) :
    AO P o S (aput o.dst rv (asetc S r [] v)) := ao_of fun K w0 Z0 a w hGK ⟨Z, Sc, z1, z2, hSc, hG⟩ Q => by
  subst hSc
  obtain ⟨cs, h1, h2, h3⟩ := ards_sound hG _ _ hvs
  match cs, h1 with
  | c0 :: cs, h1 =>
  simp only [ers, List.cons.injEq] at h1
  obtain ⟨hc0, rfl⟩ := h1
  obtain ⟨ad, rfl⟩ := er_at hc0
  have r0 := (h3 _ (List.mem_cons_self ..)).1
  have h3' : ∀ c ∈ cs, Rd w Z Sc c ∧ (∀ ys, c ≠ .tup ys) := fun c hc => h3 c (by simp [hc])
  have hfps : fps cs = [] := fps_rd h3'
  obtain ⟨xb, hxc, hxe⟩ : ∃ xb, Sc[r]? = some xb ∧ er xb = .box y := by
    rw [ers_eq, List.getElem?_map] at hx
    cases hq : Sc[r]? with
    | none => simp [hq] at hx
    | some q => simp only [hq, Option.map_some, Option.some.injEq] at hx; exact ⟨q, rfl, hx⟩
  obtain ⟨b, ty, z, rfl, rfl⟩ := er_box hxe
  have hz : Pl z := pl_er z hy
  have had : ad = ⟨b, 0, none⟩ := by
    have := r0.refOk
    simp only [RefOk] at this
    obtain ⟨x1, y1, e1, e2, e3⟩ := this
    rw [hxc] at e1; cases e1
    simp only [rootC, cgetN, Option.some.injEq, Prod.mk.injEq] at e3
    exact e3.2.symm
  subst had
  have hmx := List.mem_of_getElem? hxc
  have hokx : Ok w Z (.box b ty z) := ((okL_cut hxc).1 ((okL_append _ _).1 hG.ok).1).2.1
  have hfS : fps (Sc ++ []) = fps Sc := by simp
  have hxS : ∀ u ∈ fp (.box b ty z), u ∈ fps (Sc ++ []) := fun u hu => by rw [hfS]; exact mem_fps.2 ⟨_, hmx, hu⟩
  have hnx : (fp (.box b ty z)).Nodup := by
    have := hG.nodup
    rw [hfS, fps_cut hxc] at this
    exact (List.nodup_append.1 (List.nodup_append.1 this).2.1).1
  have hfb : fps (.box b ty z :: cs) = fp (.box b ty z) := by simp [fps, hfps]
  have hval : (CV.box b ty z :: cs).map val = args.toList.map a.eval := by rw [← h2]; rfl
  unfold Oper.wp
  rw [run_call ho hf]
  simp only [Oper.upon]
  have ha : args.map a.eval = ((CV.box b ty z :: cs).map val).toArray := by rw [hval]; apply Array.ext'; simp
  rw [ha]
  refine Calls.mono (hS w Z (.box b ty z :: cs) rfl ⟨hokx, (okL_iff _).2 fun c hc => (h3' c hc).1.ok⟩ (by rw [hfb]; exact hnx) (by rw [hfb]; exact fun u hu => hG.apart u (hxS u hu)) (by rw [hfb]; exact fun u hu => hG.lt u (hu.imp (hxS u) id)) ?_ ((hG.gw hGK).mono (by rw [hfb]; exact hxS))) ?_
  · intro x hx'
    rcases List.mem_cons.1 hx' with rfl | hx'
    · exact hz
    · exact ((plL_iff _).1 (plL_er cs hpl) x hx').nr
  · rintro e w' ⟨c, d, x, he, hc, hd, hxx, hvd, hnc, hnd, ⟨Z', y1, y2, y3, y4⟩, hndc, hown, hsame, hgr, hos, htp, hout⟩
    subst he
    simp only [List.getElem?_cons_zero, Option.some.injEq] at hxx
    subst hxx
    obtain ⟨b', ty', z', rfl, rfl⟩ := er_box hd
    have hb : b' = b := by simp [val, val1, flat] at hvd; exact hvd
    subst hb
    rw [hfb] at hown hsame
    have hz' : Pl z' := pl_er z' hv
    have hG2 := hG.lendB hxc hz' y1 y2 y3 y4 hnc hndc hown hsame hgr hos htp hout
    refine ⟨Z', cput o.dst c _, fun b hb => y1 b (z1 b hb), fun b hb => ?_, ?_, hG2.put o.dst⟩
    · rcases (y2 b hb).1 with h | h
      · exact z2 b h
      · exact .inr (Nat.le_trans hG.grew h)
    · rw [er_cput, hc]
      congr 1
      have e1 : aset (ers Sc) r [] (er z') = (ers Sc).set r (.box (er z')) := by
        unfold aset; rw [hx]; simp [asetR, asetN]
      unfold asetc
      rw [e1]
      apply List.ext_getElem?
      intro t
      simp only [ers_eq, aclr, List.map_set, List.getElem?_set, List.getElem?_map, cclr_at, List.length_map, cclr_len]
      split
      · split
        · simp [er, hitA]
        · rfl
      · cases Sc[t]? with
        | none => rfl
        | some u => simp only [Option.map_some, hit_er]; split <;> simp [er]
theorem al_lendB {ops : Array Oper} {l : List Oper} {N : List AV → Prop} {o : Oper} {f : Nat} {args : Array Operand} {ats : Array TypeId} {S vs S' : List AV} {r : Nat} {y v rv : AV} (hgd : gchk ops S o = some true)
    (ho : o.op = .call { callee := .value (.func f), args, argTypes := ats }) (hf : ∀ vs w, (callFunc f vs).run P w = .ok (.enter f vs) w)
    (hvs : ards S args.toList = some (.at r [] :: vs)) (hx : S[r]? = some (.box y)) (hy : plA y = true) (hpl : plAs vs = true) (hS : SoundB P f (.box y :: vs) 0 rv (.box v)) (hv : plA v = true) (hp' : aput o.dst rv (asetc S r [] v) = S') (h : AL P false ops l S' N) : AL P false ops (o :: l) S N := by
  subst hp'
  exact al_op hgd (call_lendB ho hf hvs hx hy hpl hS hv) h
end
attribute [go_sem] nrA
end Go.Bv

/-! Regions whose order is drawn and whose operations only read and reckon: walked in the order in which they stand. -/
namespace Go.Bv
open Go Go.RowKit
set_option linter.unusedSimpArgs false
set_option linter.unusedVariables false

def opnds : Op → List Operand
  | .move x => [x]
  | .assign x => [x]
  | .pick c x y => [c, x, y]
  | .load _ x => [x]
  | .fieldAddr _ x _ => [x]
  | .indexAddr _ x i => [x, i]
  | .field _ x _ => [x]
  | .index _ x i => [x, i]
  | .binOp _ _ x y _ => [x, y]
  | .unOp _ _ x => [x]
  | .convert _ _ x => [x]
  | .slice _ x lo hi none => x :: (lo.toList ++ hi.toList)
  | .makeFunc _ _ caps => caps.toList
  | .nilCheck x => [x]
  | .call c => c.args.toList
  | _ => []
def tmpOf : Operand → Option Nat
  | .tmp t => some t
  | _ => none
/-- The slots that an operation, or its guard, reads. -/
def rdS (ops : Array Oper) (o : Oper) : List Nat :=
  (opnds o.op).filterMap tmpOf ++ (match o.guard with | some (g, _) => (match ops[g]? with | some q => q.dst.toList | none => []) | none => [])
def confl (ops : Array Oper) (a b : Oper) : Bool :=
  match a.dst, b.dst with
  | some d, some e => (rdS ops b).contains d || (rdS ops a).contains e || d == e
  | some d, none => (rdS ops b).contains d
  | none, some e => (rdS ops a).contains e
  | none, none => false
/-- Operations that are not ordered don't hinder each other. -/
def indepB (ops : Array Oper) (A : List (List Nat)) : Bool :=
  (List.range ops.size).all fun k => match ops[k]? with
    | none => true
    | some b => (match b.dst with | some e => !(rdS ops b).contains e | none => true) &&
      (List.range k).all fun i => match ops[i]? with
        | none => true
        | some a => !confl ops a b || ((A[k]?).getD []).contains i
def dsts (l : List Oper) : List Nat := l.filterMap (·.dst)
mutual
/-- The slots that a value leans on. -/
def mroots : AV → List Nat
  | .at r _ => [r]
  | .ref r _ _ _ => [r]
  | .agg xs => mrootss xs
  | .tup xs => mrootss xs
  | .fn _ xs => mrootss xs
  | .ip x => mroots x
  | _ => []
def mrootss : List AV → List Nat
  | [] => []
  | x :: xs => mroots x ++ mrootss xs
end
/-- None of these slots is leant on. -/
def nomA (ds : List Nat) (v : AV) : Bool := (mroots v).all fun r => !ds.contains r
def nom (ds : List Nat) (S : List AV) : Bool := (mrootss S).all fun r => !ds.contains r
mutual
theorem men_roots (d : Nat) : ∀ x : AV, d ∉ mroots x → menA d x = false
  | .at r _, h => by simp [mroots] at h; simp [menA, h]
  | .ref r _ _ _, h => by simp [mroots] at h; simp [menA, h]
  | .agg xs, h => by simp only [mroots, menA] at h ⊢; exact mens_roots d xs h
  | .tup xs, h => by simp only [mroots, menA] at h ⊢; exact mens_roots d xs h
  | .fn _ xs, h => by simp only [mroots, menA] at h ⊢; exact mens_roots d xs h
  | .ip x, h => by simp only [mroots, menA] at h ⊢; exact men_roots d x h
  | .undef, _ | .bool _, _ | .int _ _, _ | .str _, _ | .lst _ _ _, _ | .box _, _ => by simp [menA]
theorem mens_roots (d : Nat) : ∀ xs : List AV, d ∉ mrootss xs → menAs d xs = false
  | [], _ => by simp [menAs]
  | x :: xs, h => by
    simp only [mrootss, List.mem_append, not_or] at h
    simp [menAs, men_roots d x h.1, mens_roots d xs h.2]
end
theorem mem_mrootss {r : Nat} : ∀ {xs : List AV}, r ∈ mrootss xs ↔ ∃ x ∈ xs, r ∈ mroots x
  | [] => by simp [mrootss]
  | x :: xs => by simp [mrootss, mem_mrootss (xs := xs)]
theorem nom_iff {ds : List Nat} {S : List AV} : nom ds S = true ↔ ∀ x ∈ S, nomA ds x = true := by
  simp only [nom, nomA, List.all_eq_true, mem_mrootss]
  exact ⟨fun h x hx r hr => h r ⟨x, hx, hr⟩, fun h r ⟨x, hx, hr⟩ => h x hx r hr⟩
theorem nomA_not {ds : List Nat} {v : AV} (h : nomA ds v = true) {d : Nat} (hd : d ∈ ds) : d ∉ mroots v := fun hm => by
  simp only [nomA, List.all_eq_true] at h
  have := h d hm
  simp [hd] at this
/-- A slot takes a value, plainly. -/
def sput : Option Nat → AV → List AV → List AV
  | some d, v, S => S.set d v
  | none, _, S => S
theorem aput_sput {ds : List Nat} {S : List AV} {v : AV} {dst : Option Nat} (hd : ∀ d, dst = some d → d ∈ ds) (h : nom ds S = true) (hv : nomA ds v = true) : aput dst v S = sput dst v S := by
  cases dst with
  | none => rfl
  | some d =>
    have hdd := hd d rfl
    have hmap : S.map (aun d) = S := by
      conv => rhs; rw [← List.map_id S]
      apply List.map_congr_left
      intro x hx
      simp [aun, men_roots d x (nomA_not (nom_iff.1 h x hx) hdd)]
    have hav : aun d v = v := by simp [aun, men_roots d v (nomA_not hv hdd)]
    simp only [aput, sput, hmap, hav]
    split
    · split <;> rfl
    · rename_i hn
      rw [List.set_eq_of_length_le (by simpa using hn)]
theorem nom_sput {ds : List Nat} {S : List AV} {v : AV} {dst : Option Nat} (h : nom ds S = true) (hv : nomA ds v = true) : nom ds (sput dst v S) = true := by
  cases dst with
  | none => exact h
  | some d =>
    rw [nom_iff] at h ⊢
    intro x hx
    rcases List.mem_or_eq_of_mem_set hx with hx | rfl
    · exact h x hx
    · exact hv
theorem sput_len (dst : Option Nat) (v : AV) (S : List AV) : (sput dst v S).length = S.length := by cases dst <;> simp [sput]

/-! ### steps that hang on what they read alone -/
section
variable {P : Program} {Γ : Tab} {ops : Array Oper} {o : Oper} {S S' : List AV} {ds : List Nat}

theorem ard_eq {x : Operand} (h : ∀ t, tmpOf x = some t → S'[t]? = S[t]?) : ard S' x = ard S x := by
  cases x <;> simp only [ard]
  rename_i t
  rw [h t rfl]
theorem ards_eq : ∀ {xs : List Operand}, (∀ t ∈ xs.filterMap tmpOf, S'[t]? = S[t]?) → ards S' xs = ards S xs
  | [], _ => rfl
  | x :: xs, h => by
    have h1 : ard S' x = ard S x := ard_eq fun t ht => h t (by simp [List.filterMap_cons, ht])
    have h2 : ards S' xs = ards S xs := ards_eq fun t ht => h t (by
      simp only [List.filterMap_cons]
      split
      · exact ht
      · exact List.mem_cons_of_mem _ ht)
    simp only [ards, h1, h2]
theorem aget_eq {r : Nat} (p : List Nat) (h : S'[r]? = S[r]?) : aget S' r p = aget S r p := by simp only [aget, h]
mutual
theorem mroots_view (t : Nat) : ∀ (x : AV) (p : List Nat), ∀ r ∈ mroots (aview t p x), r = t ∨ r ∈ mroots x
  | .lst o s xs, p, r, h => by cases o <;> simp [aview, mroots] at h ⊢ <;> exact h
  | .agg xs, p, r, h => by simp only [aview, mroots] at h ⊢; exact mroots_views t xs p 0 r h
  | .undef, _, _, h | .bool _, _, _, h | .int _ _, _, _, h | .str _, _, _, h | .tup _, _, _, h | .fn _ _, _, _, h | .ip _, _, _, h | .at _ _, _, _, h | .ref _ _ _ _, _, _, h | .box _, _, _, h => .inr (by simpa [aview] using h)
theorem mroots_views (t : Nat) : ∀ (xs : List AV) (p : List Nat) (i : Nat), ∀ r ∈ mrootss (aviews t p i xs), r = t ∨ r ∈ mrootss xs
  | [], _, _, r, h => by simp [aviews, mrootss] at h
  | x :: xs, p, i, r, h => by
    simp only [aviews, mrootss, List.mem_append] at h ⊢
    rcases h with h | h
    · exact (mroots_view t x _ r h).imp id .inl
    · exact (mroots_views t xs p (i + 1) r h).imp id .inr
end
/-- What a read value leans on: the slot that was read, or none of ds. -/
theorem ard_roots {x : Operand} {v : AV} (hn : nom ds S = true) (hx : ard S x = some v) (hag : ∀ t, t ∉ ds → S'[t]? = S[t]?) (h : ∀ t, tmpOf x = some t → S'[t]? = S[t]?) : ∀ r ∈ mroots v, S'[r]? = S[r]? := by
  intro r hr
  cases x with
  | tmp t =>
    simp only [ard] at hx
    have ht := h t rfl
    split at hx
    · simp only [Option.some.injEq] at hx; subst hx; simp [mroots] at hr; subst hr; exact ht
    · cases hx
    · rename_i y _ _ hy
      simp only [Option.some.injEq] at hx
      subst hx
      rcases mroots_view t y [] r hr with rfl | hr
      · exact ht
      · refine hag r fun hd => ?_
        exact nomA_not (nom_iff.1 hn y (List.mem_of_getElem? hy)) hd hr
    · cases hx
  | const c =>
    simp only [ard] at hx
    cases c <;> simp [aconst] at hx <;> first | (subst hx; simp [mroots] at hr) | (obtain ⟨_, rfl⟩ := hx; simp [mroots] at hr) | skip
    all_goals (try (split at hx <;> simp at hx <;> (subst hx; simp [mroots] at hr)))
  | func f => simp only [ard, Option.some.injEq] at hx; subst hx; simp [mroots, mrootss] at hr
  | global g => simp [ard] at hx
/-- A quiet operation yields the same where what it reads is the same. -/
theorem qv_eq {v : AV} (hn : nom ds S = true) (hag : ∀ t, t ∉ ds → S'[t]? = S[t]?) (h : ∀ t ∈ (opnds o.op).filterMap tmpOf, S'[t]? = S[t]?) (hv : qv Γ S o = some v) : qv Γ S' o = some v := by
  have ha : ∀ x ∈ opnds o.op, ard S' x = ard S x := fun x hx => ard_eq fun t ht => h t (List.mem_filterMap.2 ⟨x, hx, ht⟩)
  have hr : ∀ x ∈ opnds o.op, ∀ u, ard S x = some u → ∀ r ∈ mroots u, S'[r]? = S[r]? := fun x hx u hu => ard_roots hn hu hag fun t ht => h t (List.mem_filterMap.2 ⟨x, hx, ht⟩)
  unfold qv at hv ⊢
  cases hop : o.op with
  | move x => rw [hop] at ha hv; simp only [opnds] at ha; simp only at hv ⊢; rw [ha x (by simp)]; exact hv
  | pick c x y => rw [hop] at ha hv; simp only [opnds] at ha; simp only at hv ⊢; rw [ha c (by simp), ha x (by simp), ha y (by simp)]; exact hv
  | load T x =>
    rw [hop] at ha hv hr; simp only [opnds] at ha hr; simp only at hv ⊢; rw [ha x (by simp)]
    cases hx : ard S x with
    | none => rw [hx] at hv; exact hv
    | some u =>
      rw [hx] at hv
      cases u <;> first
        | exact hv
        | (rename_i y; cases y <;> exact hv)
        | (rename_i r p
           have e := aget_eq p (hr x (by simp) _ hx r (by simp [mroots]))
           simp only at hv ⊢
           rw [e]; exact hv)
  | fieldAddr T x f =>
    rw [hop] at ha hv hr; simp only [opnds] at ha hr; simp only at hv ⊢; rw [ha x (by simp)]
    cases hx : ard S x with
    | none => rw [hx] at hv; exact hv
    | some u =>
      rw [hx] at hv
      cases u <;> first
        | exact hv
        | (rename_i y; cases y <;> exact hv)
        | (rename_i r p
           have e := aget_eq p (hr x (by simp) _ hx r (by simp [mroots]))
           simp only at hv ⊢
           rw [e]; exact hv)
  | indexAddr T x i =>
    rw [hop] at ha hv hr; simp only [opnds] at ha hr; simp only at hv ⊢; rw [ha x (by simp), ha i (by simp)]
    cases hk : Γ.kind T <;> rw [hk] at hv <;> try exact hv
    cases hi : ard S i with
    | none => rw [hi] at hv; exact hv
    | some w =>
    rw [hi] at hv
    cases w <;> first | exact hv | skip
    cases hx : ard S x with
    | none => rw [hx] at hv; exact hv
    | some u =>
      rw [hx] at hv
      cases u <;> first
        | exact hv
        | (rename_i b _ _; cases b <;> exact hv)
        | (rename_i b; cases b <;> exact hv)
        | (rename_i r p lo m
           have hg : aget S' r = aget S r := funext fun q => aget_eq q (hr x (by simp) _ hx r (by simp [mroots]))
           dsimp only at hv ⊢; rw [hg]; exact hv)
  | field T x f => rw [hop] at ha hv; simp only [opnds] at ha; simp only at hv ⊢; rw [ha x (by simp)]; exact hv
  | index T x i => rw [hop] at ha hv; simp only [opnds] at ha; simp only at hv ⊢; rw [ha x (by simp), ha i (by simp)]; exact hv
  | binOp op T x y T' => rw [hop] at ha hv; simp only [opnds] at ha; simp only at hv ⊢; rw [ha x (by simp), ha y (by simp)]; exact hv
  | unOp op T x => rw [hop] at ha hv; simp only [opnds] at ha; simp only at hv ⊢; rw [ha x (by simp)]; exact hv
  | convert s d x => rw [hop] at ha hv; simp only [opnds] at ha; simp only at hv ⊢; rw [ha x (by simp)]; exact hv
  | slice T x lo hi mx =>
    rw [hop] at ha hv hr
    cases mx with
    | some m => simp at hv
    | none =>
      simp only [opnds] at ha hr; simp only at hv ⊢; rw [ha x (by simp)]
      have hb1 : bndA S' lo = bndA S lo := funext fun d => funext fun t => by
        cases lo with
        | none => rfl
        | some y => simp only [bndA]; rw [ha y (by simp)]
      have hb2 : bndA S' hi = bndA S hi := funext fun d => funext fun t => by
        cases hi with
        | none => rfl
        | some y => simp only [bndA]; rw [ha y (by simp)]
      rw [hb1, hb2]
      cases hk : Γ.kind T <;> rw [hk] at hv <;> try exact hv
      all_goals
      cases hx : ard S x with
      | none => rw [hx] at hv; exact hv
      | some u =>
        rw [hx] at hv
        cases u <;> first
          | exact hv
          | (rename_i b _ _; cases b <;> exact hv)
          | (rename_i b; cases b <;> exact hv)
          | (rename_i r p lo m
             have hg : aget S' r = aget S r := funext fun q => aget_eq q (hr x (by simp) _ hx r (by simp [mroots]))
             dsimp only at hv ⊢; rw [hg]; exact hv)
  | makeFunc f first caps =>
    rw [hop] at hv h; simp only [opnds] at h
    have e := ards_eq (S := S) (S' := S') h
    cases f <;> simp only at hv ⊢ <;> try exact hv
    rw [e]; exact hv
  | nilCheck x => rw [hop] at ha hv; simp only [opnds] at ha; simp only at hv ⊢; rw [ha x (by simp)]; exact hv
  | call c =>
    rw [hop] at hv h
    obtain ⟨callee, args, argTypes⟩ := c
    simp only [opnds] at h
    have e := ards_eq (S := S) (S' := S') h
    cases callee <;> try (simp at hv; done)
    simp only at hv ⊢
    rw [e]; exact hv
  | _ => rw [hop] at hv; simp at hv

mutual
theorem asnap_eq : ∀ {x : AV}, (∀ r ∈ mroots x, S'[r]? = S[r]?) → asnap S' x = asnap S x
  | .ref r p lo n, h => by simp only [asnap]; rw [aget_eq p (h r (by simp [mroots]))]
  | .at r p, h => by simp only [asnap]; rw [aget_eq p (h r (by simp [mroots]))]
  | .agg xs, h => by simp only [asnap]; rw [asnaps_eq (xs := xs) fun r hr => h r (by simpa [mroots] using hr)]
  | .fn f xs, h => by simp only [asnap]; rw [asnaps_eq (xs := xs) fun r hr => h r (by simpa [mroots] using hr)]
  | .undef, _ | .bool _, _ | .int _ _, _ | .str _, _ | .lst _ _ _, _ | .box _, _ | .tup _, _ | .ip _, _ => by simp only [asnap]
theorem asnaps_eq : ∀ {xs : List AV}, (∀ r ∈ mrootss xs, S'[r]? = S[r]?) → asnaps S' xs = asnaps S xs
  | [], _ => rfl
  | x :: xs, h => by
    simp only [asnaps]
    rw [asnap_eq (x := x) fun r hr => h r (by simp [mrootss, hr]), asnaps_eq (xs := xs) fun r hr => h r (by simp [mrootss, hr])]
end
theorem ards_roots (hn : nom ds S = true) (hag : ∀ t, t ∉ ds → S'[t]? = S[t]?) : ∀ {xs : List Operand} {vs : List AV}, (∀ t ∈ xs.filterMap tmpOf, S'[t]? = S[t]?) → ards S xs = some vs → ∀ r ∈ mrootss vs, S'[r]? = S[r]?
  | [], vs, _, h => by simp only [ards, Option.some.injEq] at h; subst h; simp [mrootss]
  | x :: xs, vs, ht, h => by
    simp only [ards] at h
    cases hx : ard S x with
    | none => simp [hx] at h
    | some v =>
      cases hxs : ards S xs with
      | none => simp [hx, hxs] at h
      | some us =>
        simp only [hx, hxs, Option.some.injEq] at h
        subst h
        intro r hr
        simp only [mrootss, List.mem_append] at hr
        rcases hr with hr | hr
        · exact ard_roots hn hx hag (fun t e => ht t (by simp [List.filterMap_cons, e])) r hr
        · refine ards_roots hn hag (fun t e => ht t ?_) hxs r hr
          simp only [List.filterMap_cons]
          split
          · exact e
          · exact List.mem_cons_of_mem _ e
theorem gchk_eq (h : ∀ t ∈ rdS ops o, S'[t]? = S[t]?) : gchk ops S' o = gchk ops S o := by
  unfold gchk
  cases hg : o.guard with
  | none => rfl
  | some gb =>
    obtain ⟨g, b⟩ := gb
    simp only
    cases hq : ops[g]? with
    | none => rfl
    | some q =>
      simp only
      cases hd : q.dst with
      | none => rfl
      | some d =>
        simp only
        rw [h d (by simp [rdS, hg, hq, hd])]
theorem rd_opnds (h : ∀ t ∈ rdS ops o, S'[t]? = S[t]?) : ∀ t ∈ (opnds o.op).filterMap tmpOf, S'[t]? = S[t]? := fun t ht => h t (by simp only [rdS, List.mem_append]; exact .inl ht)

/-- Wherever what it reads is as in S, the operation yields v. -/
def LOC (P : Program) (ops : Array Oper) (ds : List Nat) (o : Oper) (S : List AV) (v : AV) : Prop :=
  nom ds S = true → (∀ d, o.dst = some d → d ∈ ds) → ∀ S', nom ds S' = true → (∀ t, t ∉ ds → S'[t]? = S[t]?) → (∀ t ∈ rdS ops o, S'[t]? = S[t]?) → AS P ops o S' (sput o.dst v S')
/-- The operations in the order in which they stand; N: what they come to. -/
def AD (P : Program) (ops : Array Oper) (ds : List Nat) : List Oper → List AV → (List AV → Prop) → Prop
  | [], S, N => N S
  | o :: l, S, N => ∃ v, nomA ds v = true ∧ LOC P ops ds o S v ∧ AD P ops ds l (sput o.dst v S) N
variable {l : List Oper} {N : List AV → Prop} {v : AV}
theorem ad_nil (h : N S) : AD P ops ds [] S N := h
theorem ad_q (hT : TabOk P Γ) (hg : gchk ops S o = some true) (hv : qv Γ S o = some v) (hm : nomA ds v = true) (hp : sput o.dst v S = S') (h : AD P ops ds l S' N) : AD P ops ds (o :: l) S N := by
  subst hp
  refine ⟨v, hm, fun hn hd S' hn' hag hrd => ?_, h⟩
  rw [← aput_sput hd hn' hm]
  exact as_q hT (by rw [gchk_eq hrd]; exact hg) (qv_eq hn hag (rd_opnds hrd) hv) rfl
theorem ad_skip (hg : gchk ops S o = some false) (hp : sput o.dst (.tup []) S = S') (h : AD P ops ds l S' N) : AD P ops ds (o :: l) S N := by
  subst hp
  refine ⟨_, by simp [nomA, mroots, mrootss], fun hn hd S' hn' hag hrd => ?_, h⟩
  rw [← aput_sput hd hn' (by simp [nomA, mroots, mrootss])]
  exact as_skip (by rw [gchk_eq hrd]; exact hg) rfl
theorem ad_caseT {g : Nat} {t : Bool} (hb : o.guard = some (g, true)) (hg : graw ops S g = some t) (hp : sput o.dst (.tup []) S = S') (h1 : t = true → AD P ops ds (o :: l) S N) (h2 : t = false → AD P ops ds l S' N) : AD P ops ds (o :: l) S N := by
  cases t with
  | true => exact h1 rfl
  | false => exact ad_skip (by rw [graw_gchk hb hg]; rfl) hp (h2 rfl)
theorem ad_caseF {g : Nat} {t : Bool} (hb : o.guard = some (g, false)) (hg : graw ops S g = some t) (hp : sput o.dst (.tup []) S = S') (h1 : t = false → AD P ops ds (o :: l) S N) (h2 : t = true → AD P ops ds l S' N) : AD P ops ds (o :: l) S N := by
  cases t with
  | false => exact h1 rfl
  | true => exact ad_skip (by rw [graw_gchk hb hg]; rfl) hp (h2 rfl)
theorem ad_assign {x : Operand} (hg : gchk ops S o = some true) (ho : o.op = .assign x) (hx : ard S x = some v) (hm : nomA ds v = true) (hp : sput o.dst v S = S') (h : AD P ops ds l S' N) : AD P ops ds (o :: l) S N := by
  subst hp
  refine ⟨v, hm, fun hn hd S' hn' hag hrd => ?_, h⟩
  rw [← aput_sput hd hn' hm]
  have := rd_opnds hrd
  rw [ho] at this
  exact as_op (by rw [gchk_eq hrd]; exact hg) (ao_assign_ref ho (by rw [ard_eq fun t ht => this t (by simp [opnds, ht])]; exact hx))
theorem ad_call {f : Nat} {args : Array Operand} {ats : Array TypeId} {vs : List AV} {r : AV} (hg : gchk ops S o = some true) (ho : o.op = .call { callee := .value (.func f), args, argTypes := ats })
    (hf : ∀ vs w, (callFunc f vs).run P w = .ok (.enter f vs) w) (hvs : ards S args.toList = some vs) (hpl : plAs vs = true) (hS : Sound P f vs r) (hm : nomA ds r = true) (hp : sput o.dst r S = S') (h : AD P ops ds l S' N) : AD P ops ds (o :: l) S N := by
  subst hp
  refine ⟨r, hm, fun hn hd S' hn' hag hrd => ?_, h⟩
  rw [← aput_sput hd hn' hm]
  have := rd_opnds hrd
  rw [ho] at this
  exact as_call (by rw [gchk_eq hrd]; exact hg) ho hf (by rw [ards_eq (xs := args.toList) this]; exact hvs) hpl hS rfl
theorem ad_snap {f : Nat} {args : Array Operand} {ats : Array TypeId} {vs ps : List AV} {r : AV} (hg : gchk ops S o = some true) (ho : o.op = .call { callee := .value (.func f), args, argTypes := ats })
    (hf : ∀ vs w, (callFunc f vs).run P w = .ok (.enter f vs) w) (hvs : ards S args.toList = some vs) (hps : asnaps S vs = some ps) (hS : Sound P f ps r) (hns : noSh r = true) (hm : nomA ds r = true) (hp : sput o.dst r S = S') (h : AD P ops ds l S' N) : AD P ops ds (o :: l) S N := by
  subst hp
  refine ⟨r, hm, fun hn hd S' hn' hag hrd => ?_, h⟩
  rw [← aput_sput hd hn' hm]
  have := rd_opnds hrd
  rw [ho] at this
  exact as_snap (by rw [gchk_eq hrd]; exact hg) ho hf (by rw [ards_eq (xs := args.toList) this]; exact hvs) (by rw [asnaps_eq (ards_roots hn hag this hvs)]; exact hps) hS hns rfl

/-! ### every order -/
/-- The frame when D is done; vs: what each yields. -/
def fillO (D : Nat → Bool) : Nat → List Oper → List AV → List AV → List AV
  | k, o :: l, v :: vs, S => fillO D (k + 1) l vs (if D k then sput o.dst v S else S)
  | _, _, _, S => S
theorem fillO_none : ∀ (l : List Oper) (vs : List AV) (k : Nat) (S : List AV), fillO (fun _ => false) k l vs S = S
  | [], _, _, _ => rfl
  | _ :: _, [], _, _ => rfl
  | o :: l, v :: vs, k, S => by simp [fillO, fillO_none l vs]
theorem fillO_len {D : Nat → Bool} : ∀ (l : List Oper) (vs : List AV) (k : Nat) (S : List AV), (fillO D k l vs S).length = S.length
  | [], _, _, _ => rfl
  | _ :: _, [], _, _ => rfl
  | o :: l, v :: vs, k, S => by
    simp only [fillO]
    rw [fillO_len l vs]
    split
    · exact sput_len _ _ _
    · rfl
theorem fillO_nom {D : Nat → Bool} : ∀ (l : List Oper) (vs : List AV) (k : Nat) (S : List AV), nom ds S = true → (∀ v ∈ vs, nomA ds v = true) → nom ds (fillO D k l vs S) = true
  | [], _, _, _, h, _ => h
  | _ :: _, [], _, _, h, _ => h
  | o :: l, v :: vs, k, S, h, hv => by
    simp only [fillO]
    refine fillO_nom l vs _ _ ?_ fun u hu => hv u (by simp [hu])
    split
    · exact nom_sput h (hv v (by simp))
    · exact h
theorem sput_at {dst : Option Nat} {v : AV} {S S' : List AV} {t : Nat} (h : S[t]? = S'[t]?) (hl : S.length = S'.length) : (sput dst v S)[t]? = (sput dst v S')[t]? := by
  cases dst with
  | none => exact h
  | some d =>
    simp only [sput, List.getElem?_set]
    split
    · rw [hl]
    · exact h
theorem sput_ne {dst : Option Nat} {v : AV} {S : List AV} {t : Nat} (h : dst ≠ some t) : (sput dst v S)[t]? = S[t]? := by
  cases dst with
  | none => rfl
  | some d =>
    simp only [sput, List.getElem?_set]
    rw [if_neg (fun e => h (by rw [e]))]
theorem fillO_at {D D' : Nat → Bool} {t : Nat} : ∀ (l : List Oper) (vs : List AV) (k : Nat) (S S' : List AV), S[t]? = S'[t]? → S.length = S'.length →
    (∀ j o, l[j]? = some o → o.dst = some t → D (k + j) = D' (k + j)) → (fillO D k l vs S)[t]? = (fillO D' k l vs S')[t]?
  | [], _, _, _, _, h, _, _ => h
  | _ :: _, [], _, _, _, h, _, _ => h
  | o :: l, v :: vs, k, S, S', h, hl, hD => by
    simp only [fillO]
    refine fillO_at l vs _ _ _ ?_ ?_ fun j o' ho hd => ?_
    · by_cases hd : o.dst = some t
      · have := hD 0 o rfl hd
        simp only [Nat.add_zero] at this
        rw [this]
        split
        · exact sput_at h hl
        · exact h
      · have e1 : (if D k then sput o.dst v S else S)[t]? = S[t]? := by split <;> first | exact sput_ne hd | rfl
        have e2 : (if D' k then sput o.dst v S' else S')[t]? = S'[t]? := by split <;> first | exact sput_ne hd | rfl
        rw [e1, e2, h]
    · split <;> split <;> simp [sput_len, hl]
    · have := hD (j + 1) o' (by simpa using ho) hd
      rw [show k + 1 + j = k + (j + 1) by omega]
      exact this
theorem fillO_hit {D : Nat → Bool} {t : Nat} : ∀ (l : List Oper) (vs : List AV) (k i : Nat) (S : List AV) (o : Oper) (v : AV), l[i]? = some o → vs[i]? = some v → o.dst = some t → D (k + i) = true →
    (∀ j o', i < j → l[j]? = some o' → o'.dst = some t → D (k + j) = false) → (fillO D k l vs S)[t]? = if t < S.length then some v else none
  | [], _, _, _, _, _, _, h, _, _, _, _ => by simp at h
  | _ :: _, [], _, _, _, _, _, _, h, _, _, _ => by simp at h
  | o :: l, u :: vs, k, 0, S, o', v, h1, h2, hd, hD, hj => by
    simp only [List.getElem?_cons_zero, Option.some.injEq] at h1 h2
    subst h1 h2
    simp only [Nat.add_zero] at hD
    simp only [fillO, hD, if_true]
    rw [fillO_at (D' := fun _ => false) l vs (k + 1) _ (sput o.dst u S) rfl rfl (fun j o' ho hd => ?_), fillO_none]
    · rw [hd]
      simp only [sput, List.getElem?_set, if_true]
    · have := hj (j + 1) o' (by omega) (by simpa using ho) hd
      rw [show k + 1 + j = k + (j + 1) by omega]
      exact this
  | o :: l, u :: vs, k, i + 1, S, o', v, h1, h2, hd, hD, hj => by
    simp only [fillO]
    rw [fillO_hit l vs (k + 1) i _ o' v (by simpa using h1) (by simpa using h2) hd (by rw [show k + 1 + i = k + (i + 1) by omega]; exact hD) (fun j o'' hij ho hd' => ?_)]
    · have : (if D k = true then sput o.dst u S else S).length = S.length := by split <;> simp [sput_len]
      rw [this]
    · have := hj (j + 1) o'' (by omega) (by simpa using ho) hd'
      rw [show k + 1 + j = k + (j + 1) by omega]
      exact this

theorem ad_vals : ∀ {l : List Oper} {S : List AV}, AD P ops ds l S N → ∃ vs : List AV, vs.length = l.length ∧ (∀ v ∈ vs, nomA ds v = true) ∧
    (∀ i o v, l[i]? = some o → vs[i]? = some v → LOC P ops ds o (fillO (fun j => decide (j < i)) 0 l vs S) v) ∧ N (fillO (fun _ => true) 0 l vs S) := by
  have shift : ∀ (l : List Oper) (vs : List AV) (k : Nat) (D : Nat → Bool) (S : List AV), fillO D (k + 1) l vs S = fillO (fun j => D (j + 1)) k l vs S := by
    intro l
    induction l with
    | nil => intros; rfl
    | cons o l ih =>
      intro vs k D S
      cases vs with
      | nil => rfl
      | cons v vs => simp only [fillO]; rw [ih]
  intro l
  induction l with
  | nil => exact fun {S} h => ⟨[], rfl, by simp, by simp, h⟩
  | cons o l ih =>
    intro S h
    obtain ⟨v, hm, hl, h⟩ := h
    obtain ⟨vs, h1, h2, h3, h4⟩ := ih h
    refine ⟨v :: vs, by simp [h1], ?_, ?_, ?_⟩
    · intro u hu
      rcases List.mem_cons.1 hu with rfl | hu
      · exact hm
      · exact h2 u hu
    · intro i o' v' ho hv
      cases i with
      | zero =>
        simp only [List.getElem?_cons_zero, Option.some.injEq] at ho hv
        subst ho hv
        have : (fun j => decide (j < 0)) = fun _ : Nat => false := by funext j; simp
        rw [this, fillO_none]
        exact hl
      | succ i =>
        have := h3 i o' v' (by simpa using ho) (by simpa using hv)
        simp only [fillO, Nat.zero_lt_succ, decide_true, if_true]
        rw [shift]
        have e : (fun j => decide (j + 1 < i + 1)) = fun j => decide (j < i) := by funext j; simp
        rw [e]
        exact this
    · simp only [fillO, if_true]
      rw [shift]
      exact h4

theorem steps_of {A : List (List Nat)} {F : (Nat → Bool) → List AV} : ∀ (l : List Oper) (k : Nat), (∀ j o, l[j]? = some o → ∀ D, Cl A D → D (k + j) = false → (∀ i ∈ (A[k + j]?).getD [], D i = true) → AS P ops o (F D) (F (also D (k + j)))) → Steps P ops A F k l
  | [], _, _ => trivial
  | o :: l, k, h => ⟨h 0 o rfl, steps_of l (k + 1) fun j o' ho => by
    have := h (j + 1) o' (by simpa using ho)
    rw [show k + 1 + j = k + (j + 1) by omega]
    exact this⟩

/-- A drawn region of operations that only read and reckon. -/
theorem aw_anyS (hT : TabOk P Γ) {id : Nat} {Q : Exit → List AV → Prop} (A : List (List Nat)) (ds : List Nat) (hd : dsts l = ds) (hA : ancOk l.toArray A = true) (hi : indepB l.toArray A = true) (hn : nom ds S = true)
    (h : AD P l.toArray ds l S (fun S' => Q .normal S')) : AW P (.region id l.toArray true) S Q := by
  subst hd
  obtain ⟨vs, h1, h2, h3, h4⟩ := ad_vals h
  have hcf : ∀ (i k : Nat) (a b : Oper), l[i]? = some a → l[k]? = some b → i < k → confl l.toArray a b = true → i ∈ (A[k]?).getD [] := by
    intro i k a b ha hb hik hc
    have hlt : k < l.toArray.size := by simpa using (List.getElem?_eq_some_iff.1 hb).1
    have := List.all_eq_true.1 hi k (List.mem_range.2 hlt)
    have hb' : l.toArray[k]? = some b := by simpa using hb
    simp only [hb', Bool.and_eq_true, List.all_eq_true, List.mem_range] at this
    have := this.2 i hik
    have ha' : l.toArray[i]? = some a := by simpa using ha
    simpa [ha', hc] using this
  have hds : ∀ (i : Nat) (o : Oper), l[i]? = some o → ∀ d, o.dst = some d → d ∈ dsts l := fun i o ho d hd => List.mem_filterMap.2 ⟨o, List.mem_of_getElem? ho, hd⟩
  refine aw_anyF hT A hA (fun D => fillO D 0 l vs S) (fillO_none _ _ _ _) (steps_of l 0 fun k o ho D hD hk hanc => ?_) fun D hDt => ?_
  · simp only [Nat.zero_add] at hk hanc ⊢
    obtain ⟨v, hv⟩ : ∃ v, vs[k]? = some v := by
      have : k < vs.length := by rw [h1]; exact (List.getElem?_eq_some_iff.1 ho).1
      exact ⟨vs[k], by simp [this]⟩
    have hlater : ∀ j b, l[j]? = some b → k < j → confl l.toArray o b = true → D j = false := by
      intro j b hb hkj hc
      cases hDj : D j with
      | false => rfl
      | true => have := hD j hDj k (hcf k j o b ho hb hkj hc); rw [hk] at this; cases this
    have hfill : fillO (also D k) 0 l vs S = sput o.dst v (fillO D 0 l vs S) := by
      apply List.ext_getElem?
      intro t
      by_cases hd : o.dst = some t
      · have e1 := fillO_hit (D := also D k) l vs 0 k S o v ho hv hd (by simp [also]) (fun j b hkj hb hbt => by
          have := hlater j b hb hkj (by simp [confl, hd, hbt])
          have hne : (j == k) = false := by simp; omega
          simp [also, hne, this])
        rw [e1, hd]
        simp only [sput, List.getElem?_set, if_true, fillO_len]
      · rw [sput_ne hd]
        refine fillO_at l vs 0 S S rfl rfl fun j b hb hbt => ?_
        have hne : (j == k) = false := by
          cases hjk : j == k with
          | false => rfl
          | true =>
            simp only [beq_iff_eq] at hjk
            subst hjk
            rw [ho] at hb
            simp only [Option.some.injEq] at hb
            subst hb
            exact absurd hbt hd
        simp [also, hne]
    show AS P l.toArray o (fillO D 0 l vs S) (fillO (also D k) 0 l vs S)
    rw [hfill]
    refine h3 k o v ho hv (fillO_nom _ _ _ _ hn h2) (hds k o ho) _ (fillO_nom _ _ _ _ hn h2) (fun t ht => ?_) (fun t ht => ?_)
    · exact fillO_at l vs 0 S S rfl rfl fun j b hb hbt => absurd (hds j b hb t hbt) ht
    · refine fillO_at l vs 0 S S rfl rfl fun j b hb hbt => ?_
      simp only [Nat.zero_add]
      rcases Nat.lt_trichotomy j k with hjk | hjk | hjk
      · rw [hanc j (hcf j k b o hb ho hjk ?_)]
        · simp [hjk]
        · simp only [confl, hbt]
          cases o.dst <;> simp [ht]
      · subst hjk; simp [hk]
      · rw [hlater j b hb hjk ?_]
        · simp; omega
        · simp only [confl, hbt]
          cases o.dst <;> simp [ht]
  · have : fillO D 0 l vs S = fillO (fun _ => true) 0 l vs S := by
      apply List.ext_getElem?
      intro t
      exact fillO_at l vs 0 S S rfl rfl fun j b hb _ => by rw [Nat.zero_add]; exact hDt j (List.getElem?_eq_some_iff.1 hb).1
    rw [this]; exact h4
end
/-! ### for the walk -/
theorem nom_nil {ds : List Nat} : nom ds [] = true := rfl
theorem nom_cons {ds : List Nat} {x : AV} {xs : List AV} : nom ds (x :: xs) = (nomA ds x && nom ds xs) := by simp [nom, nomA, mrootss, List.all_append]
theorem nomA_at {ds : List Nat} {r : Nat} {p : List Nat} : nomA ds (.at r p) = !ds.contains r := by simp [nomA, mroots]
theorem nomA_ref {ds : List Nat} {r : Nat} {p : List Nat} {lo n : Nat} : nomA ds (.ref r p lo n) = !ds.contains r := by simp [nomA, mroots]
theorem nomA_agg {ds : List Nat} {xs : List AV} : nomA ds (.agg xs) = nom ds xs := by simp [nom, nomA, mroots]
theorem nomA_tup {ds : List Nat} {xs : List AV} : nomA ds (.tup xs) = nom ds xs := by simp [nom, nomA, mroots]
theorem nomA_fn {ds : List Nat} {f : Nat} {xs : List AV} : nomA ds (.fn f xs) = nom ds xs := by simp [nom, nomA, mroots]
theorem nomA_ip {ds : List Nat} {x : AV} : nomA ds (.ip x) = nomA ds x := by simp [nomA, mroots]
theorem nomA_int {ds : List Nat} {k : IntKind} {n : Int} : nomA ds (.int k n) = true := by simp [nomA, mroots]
theorem nomA_bool {ds : List Nat} {b : Bool} : nomA ds (.bool b) = true := by simp [nomA, mroots]
theorem nomA_str {ds : List Nat} {s} : nomA ds (.str s) = true := by simp [nomA, mroots]
theorem nomA_lst {ds : List Nat} {o : Bool} {s : Nat} {xs : List AV} : nomA ds (.lst o s xs) = true := by simp [nomA, mroots]
theorem nomA_undef {ds : List Nat} : nomA ds .undef = true := by simp [nomA, mroots]
theorem nomA_box {ds : List Nat} {x : AV} : nomA ds (.box x) = true := by simp [nomA, mroots]
mutual
theorem plA_nom (ds : List Nat) : ∀ x : AV, plA x = true → nomA ds x = true
  | .agg xs, h => by rw [nomA_agg]; exact plAs_nom ds xs (by simpa only [plA] using h)
  | .fn _ xs, h => by rw [nomA_fn]; exact plAs_nom ds xs (by simpa only [plA] using h)
  | .ip x, h => by rw [nomA_ip]; exact plA_nom ds x (by simpa only [plA] using h)
  | .lst _ _ _, _ | .bool _, _ | .int _ _, _ | .str _, _ => by simp [nomA, mroots]
  | .at _ _, h | .ref _ _ _ _, h | .box _, h | .tup _, h | .undef, h => by simp [plA] at h
theorem plAs_nom (ds : List Nat) : ∀ xs : List AV, plAs xs = true → nom ds xs = true
  | [], _ => rfl
  | x :: xs, h => by simp only [plAs, Bool.and_eq_true] at h; rw [nom_cons, plA_nom ds x h.1, plAs_nom ds xs h.2]; rfl
end
theorem sput_some {d : Nat} {v : AV} {S : List AV} : sput (some d) v S = S.set d v := rfl
theorem sput_none {v : AV} {S : List AV} : sput none v S = S := rfl
theorem ite_putA {b : Bool} {ds : List Nat} {x y : AV} (h1 : nomA ds x = true) (h2 : nomA ds y = true) : nomA ds (if b then x else y) = true := by cases b <;> simp [h1, h2]
attribute [go_sem] nom_nil nom_cons nomA_at nomA_ref nomA_agg nomA_tup nomA_fn nomA_ip nomA_int nomA_bool nomA_str nomA_lst nomA_undef nomA_box plA_nom sput_some sput_none List.contains_cons List.contains_nil List.set_cons_zero List.set_cons_succ
end Go.Bv
