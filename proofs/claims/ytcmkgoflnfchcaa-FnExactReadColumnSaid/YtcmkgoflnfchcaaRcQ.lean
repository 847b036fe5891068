/- Proved: the law FnExactReadColumn answers true, whatever its arguments; they read as they did. -/
import Derived.Test.YtcmkgoflnfchcaaRc18
import Derived.Test.YtcmkgoflnfchcaaRows
import Derived.WalkKit
import Derived.ProofKit
import Derived.OpenShut
import Derived.ShutString
import Derived.ChangeOld
import Derived.Below
import Derived.SizedLaws
import Derived.JoinedOf
set_option linter.unusedVariables false
namespace Go.Proofs.Ytcmkgoflnfchcaa.fnExactReadColumn
open Go.ChangeShapes Go.WideShapes Go.ChangeAt Go.RowKit Go.Ev
theorem and_tt {a b : Bool} (h : a = true) (k : b = true) : (a && b) = true := by rw [h, k]; rfl
open Go in
theorem joined_of {P : Program} {f : FuncId} {fn : Func} {s : ChangeSpec} {c : OpenClaim} (h1 : (c.wf (OpenSpec.ofChange s)) = true) (h2 : (laidOutB P) = true) (h3 : (mapsRowed P) = true) (h4 : (fn.params.all (P.readableRec ·)) = true) (h5 : (namedTie P c.named s.vars) = true) (h6 : ((c.stops == [])) = true) (h7 : ((P.stops == [])) = true) (h8 : ((c.knobs == [])) = true) (h9 : ((P.stopKnobs == [])) = true) (h10 : ((c.inPlace == P.inPlace f)) = true) (h11 : ((c.unfollowed == P.unfollowed f)) = true) (h12 : ((c.recurses == P.recurses f)) = true) (h13 : ((c.named == P.varsNamed f)) = true) (h14 : ((c.maps == (fn.params.toList ++ s.plain.varTypes P).any (P.mapsRec ·))) = true) (h15 : ((c.ifaces == (fn.params.toList ++ s.plain.varTypes P).any (P.ifacesRec ·))) = true) (h16 : ((c.mapsOut == P.mapsAmong fn.resultTypes.toList)) = true) (h17 : ((c.loops == (fn.params.toList ++ s.plain.varTypes P).any (P.loopsFrom ·))) = true) (h18 : ((c.wideKeys == (fn.params.toList ++ s.plain.varTypes P ++ fn.resultTypes.toList).any (P.wideKeysFrom ·))) = true) (h19 : (s.vars.all (P.varReadable ·)) = true) (h20 : (fn.resultTypes.all (fun t => P.readableRec t && decide (t < P.types.size))) = true) (h21 : ((c.ifacesOut == fn.resultTypes.toList.any (P.ifacesRec ·))) = true) (h22 : ((c.loopsOut == fn.resultTypes.toList.any (P.loopsFrom ·))) = true) (h23 : ((c.plainKeys == P.plainKeys)) = true) (h24 : (c.shortTexts.isNone) = true) (h25 : (P.stopsHeard) = true) (h26 : (P.mayEnter) = true) (h27 : ((c.lifted == P.liftsFinal)) = true) (h28 : ((P.make == some c.make)) = true) (h29 : ((c.kinds == (if c.domain.isEmpty then [] else fn.params.toList.map fun t => match P.underlying t with | some (.int k) => some k | _ => none))) = true) (h30 : ((c.pinned == c.pinnedBy)) = true) (h31 : ((c.veiled == (fn.params.toList ++ s.plain.varTypes P ++ fn.resultTypes.toList).any (P.veiledRec ·))) = true) (h32 : (c.veiledFits P fn.params.toList (fn.params.toList ++ s.plain.varTypes P ++ fn.resultTypes.toList)) = true) : joinedFacts P f fn s c = true := by
  unfold joinedFacts; exact and_tt (and_tt (and_tt (and_tt (and_tt (and_tt (and_tt (and_tt (and_tt (and_tt (and_tt (and_tt (and_tt (and_tt (and_tt (and_tt (and_tt (and_tt (and_tt (and_tt (and_tt (and_tt (and_tt (and_tt (and_tt (and_tt (and_tt (and_tt (and_tt (and_tt (and_tt h1 h2) h3) h4) h5) h6) h7) h8) h9) h10) h11) h12) h13) h14) h15) h16) h17) h18) h19) h20) h21) h22) h23) h24) h25) h26) h27) h28) h29) h30) h31) h32
theorem j1 : (Rows.fnExactReadColumnRow.wf (OpenSpec.ofChange Rows.fnExactReadColumnSpec)) = true := by kernel_rfl
theorem j2 : (laidOutB Try.prog) = true := by kernel_rfl
theorem j3 : (mapsRowed Try.prog) = true := by kernel_rfl
theorem j4 : (Try.f9.params.all (Try.prog.readableRec ·)) = true := by kernel_rfl
theorem j5 : (namedTie Try.prog Rows.fnExactReadColumnRow.named Rows.fnExactReadColumnSpec.vars) = true := by kernel_rfl
theorem j6 : ((Rows.fnExactReadColumnRow.stops == [])) = true := by kernel_rfl
theorem j7 : ((Try.prog.stops == [])) = true := by kernel_rfl
theorem j8 : ((Rows.fnExactReadColumnRow.knobs == [])) = true := by kernel_rfl
theorem j9 : ((Try.prog.stopKnobs == [])) = true := by kernel_rfl
theorem j10 : ((Rows.fnExactReadColumnRow.inPlace == Try.prog.inPlace 9)) = true := by kernel_rfl
theorem j11 : ((Rows.fnExactReadColumnRow.unfollowed == Try.prog.unfollowed 9)) = true := by kernel_rfl
theorem j12 : ((Rows.fnExactReadColumnRow.recurses == Try.prog.recurses 9)) = true := by kernel_rfl
theorem j13 : ((Rows.fnExactReadColumnRow.named == Try.prog.varsNamed 9)) = true := by kernel_rfl
theorem j14 : ((Rows.fnExactReadColumnRow.maps == (Try.f9.params.toList ++ Rows.fnExactReadColumnSpec.plain.varTypes Try.prog).any (Try.prog.mapsRec ·))) = true := by kernel_rfl
theorem j15 : ((Rows.fnExactReadColumnRow.ifaces == (Try.f9.params.toList ++ Rows.fnExactReadColumnSpec.plain.varTypes Try.prog).any (Try.prog.ifacesRec ·))) = true := by kernel_rfl
theorem j16 : ((Rows.fnExactReadColumnRow.mapsOut == Try.prog.mapsAmong Try.f9.resultTypes.toList)) = true := by kernel_rfl
theorem j17 : ((Rows.fnExactReadColumnRow.loops == (Try.f9.params.toList ++ Rows.fnExactReadColumnSpec.plain.varTypes Try.prog).any (Try.prog.loopsFrom ·))) = true := by kernel_rfl
theorem j18 : ((Rows.fnExactReadColumnRow.wideKeys == (Try.f9.params.toList ++ Rows.fnExactReadColumnSpec.plain.varTypes Try.prog ++ Try.f9.resultTypes.toList).any (Try.prog.wideKeysFrom ·))) = true := by kernel_rfl
theorem j19 : (Rows.fnExactReadColumnSpec.vars.all (Try.prog.varReadable ·)) = true := by kernel_rfl
theorem j20 : (Try.f9.resultTypes.all (fun t => Try.prog.readableRec t && decide (t < Try.prog.types.size))) = true := by kernel_rfl
theorem j21 : ((Rows.fnExactReadColumnRow.ifacesOut == Try.f9.resultTypes.toList.any (Try.prog.ifacesRec ·))) = true := by kernel_rfl
theorem j22 : ((Rows.fnExactReadColumnRow.loopsOut == Try.f9.resultTypes.toList.any (Try.prog.loopsFrom ·))) = true := by kernel_rfl
theorem j23 : ((Rows.fnExactReadColumnRow.plainKeys == Try.prog.plainKeys)) = true := by kernel_rfl
theorem j24 : (Rows.fnExactReadColumnRow.shortTexts.isNone) = true := by kernel_rfl
theorem j25 : (Try.prog.stopsHeard) = true := by kernel_rfl
theorem j26 : (Try.prog.mayEnter) = true := by kernel_rfl
theorem j27 : ((Rows.fnExactReadColumnRow.lifted == Try.prog.liftsFinal)) = true := by kernel_rfl
theorem j28 : ((Try.prog.make == some Rows.fnExactReadColumnRow.make)) = true := by kernel_rfl
theorem j29 : ((Rows.fnExactReadColumnRow.kinds == (if Rows.fnExactReadColumnRow.domain.isEmpty then [] else Try.f9.params.toList.map fun t => match Try.prog.underlying t with | some (.int k) => some k | _ => none))) = true := by kernel_rfl
theorem j30 : ((Rows.fnExactReadColumnRow.pinned == Rows.fnExactReadColumnRow.pinnedBy)) = true := by kernel_rfl
theorem j31 : ((Rows.fnExactReadColumnRow.veiled == (Try.f9.params.toList ++ Rows.fnExactReadColumnSpec.plain.varTypes Try.prog ++ Try.f9.resultTypes.toList).any (Try.prog.veiledRec ·))) = true := by kernel_rfl
theorem j32 : (Rows.fnExactReadColumnRow.veiledFits Try.prog Try.f9.params.toList (Try.f9.params.toList ++ Rows.fnExactReadColumnSpec.plain.varTypes Try.prog ++ Try.f9.resultTypes.toList)) = true := by kernel_rfl
theorem pp : Try.pinned.checked.prog = Try.prog := rfl
theorem jall : joinedFacts Try.pinned.checked.prog 9 Try.f9 Rows.fnExactReadColumnSpec Rows.fnExactReadColumnRow = true := by
  rw [pp]
  exact joined_of j1 j2 j3 j4 j5 j6 j7 j8 j9 j10 j11 j12 j13 j14 j15 j16 j17 j18 j19 j20 j21 j22 j23 j24 j25 j26 j27 j28 j29 j30 j31 j32
theorem own : ownKnob Try.prog.godebug = none := by kernel_rfl
theorem laidOut : laidOutB Try.prog = true := by kernel_rfl
set_option maxRecDepth 100000 in
theorem lifted (os : Os) (started : os.Started) (H : Type) (enc : TypeId × Value → H) :
    ReturnsInHanded {} Try.checked os 9 .any (Rows.fnExactReadColumnSpec.pre6 enc Try.prog Try.f9 Rows.fnExactReadColumnRow.domain false) (Rows.fnExactReadColumnSpec.post enc Try.prog Try.f9 false true false false) := by
  refine returnsInHanded_of_change_sized (C := Try.checked) own started (by kernel_rfl) Try.func9
    (ChangeSpec.witness6 (enc := enc) (C := Try.checked) false ⟨#[], #[.agg #[.slice none 0 0, .int .i64 0, .int .i64 0], .int .i64 0, .slice none 0 0, .slice none 0 0], []⟩ 8 (by kernel_rfl) (by kernel_rfl) (by kernel_rfl) (by kernel_rfl)) ?_
  intro W base args ds gs before hval0 hW hcnd hsz0 _
  have hsz : (DataW.weightsEach Try.prog (Try.f9.params.toList ++ Rows.fnExactReadColumnSpec.plain.varTypes Try.prog) (ds ++ gs)).all (· ≤ reachBytes) = true := hsz0
  have hval : ∀ (j : Nat) t v, Try.f9.params[j]? = some t → args[j]? = some v → Value.okWide Try.prog W .any base t v := hval0
  have hW' := hW
  obtain ⟨p, q, hA0, hV, rfl, hfz, hnd⟩ := hW
  have hA : DataW.TrodAll enc Try.prog W 0 (fun _ => true) true Try.f9.params.toList args.toList ds p := hA0
  rw [Try.params9] at hA hval hsz
  obtain ⟨v0, vs0, d0, ds0, p0, q0, hargs, rfl, rfl, h0, r0⟩ := trodAll_cons hA
  obtain ⟨v1, vs1, d1, ds1, p1, q1, rfl, rfl, rfl, h1, r1⟩ := trodAll_cons r0
  obtain ⟨v2, vs2, d2, ds2, p2, q2, rfl, rfl, rfl, h2, r2⟩ := trodAll_cons r1
  obtain ⟨v3, vs3, d3, ds3, p3, q3, rfl, rfl, rfl, h3, r3⟩ := trodAll_cons r2
  obtain ⟨rfl, rfl, rfl⟩ := trodAll_nil r3
  obtain rfl : args = #[v0, v1, v2, v3] := by cases args; simp_all
  obtain ⟨rfl, rfl⟩ := trodVars_none hV
  obtain ⟨a0, rfl, sz0⟩ := okWide_struct Try.underlying92 (hval 0 92 v0 rfl rfl)
  have k0 := h0
  have lt0 : ∀ x ∈ p0, x.block < W.heap.size := by obtain ⟨m, hm⟩ := k0; exact DataW.trod_lt m _ _ _ hm
  obtain ⟨fuel0, hf0⟩ := h0
  obtain ⟨x0, inv0, hreps0⟩ := opF_fd enc W fuel0 _ _ hf0
    (fun n hn => by simpa using List.all_eq_true.1 hsz n (DataW.weights_mem_each (j := 0) rfl rfl n hn))
  have rep0 : Rep (inC W) true (.read .ent) (.agg _) (.agg a0) := ⟨a0, rfl, hreps0⟩
  obtain ⟨a1, rfl⟩ := okWide_int Try.underlying3 (hval 1 3 v1 rfl rfl)
  have k1 := h1
  have lt1 : ∀ x ∈ p1, x.block < W.heap.size := by obtain ⟨m, hm⟩ := k1; exact DataW.trod_lt m _ _ _ hm
  obtain ⟨fuel1, hf1⟩ := h1
  obtain ⟨x1, inv1, hreps1⟩ := Opens.int Try.underlying3 enc W fuel1 _ _ hf1
    (fun n hn => by simpa using List.all_eq_true.1 hsz n (DataW.weights_mem_each (j := 1) rfl rfl n hn))
  have rep1 := RepVs.one hreps1
  obtain ⟨a2, len2, cap2, rfl⟩ := okWide_slice Try.underlying29 (hval 2 29 v2 rfl rfl)
  have k2 := h2
  have lt2 : ∀ x ∈ p2, x.block < W.heap.size := by obtain ⟨m, hm⟩ := k2; exact DataW.trod_lt m _ _ _ hm
  obtain ⟨fuel2, hf2⟩ := h2
  obtain ⟨x2, inv2, hreps2⟩ := Opens.slice Try.underlying29 (sz := 1) (by kernel_rfl) (by decide) (by_ := 24) (by kernel_rfl) (by decide) (Opens.slice Try.underlying22 (sz := 1) (by kernel_rfl) (by decide) (by_ := 1) (by kernel_rfl) (by decide) (Opens.u8 Try.underlying5) (fun _ => rfl) (fun a c hc => by simp [byteC] at hc; rw [hc]; trivial)) (fun _ => rfl) (fun a c hc => by simp at hc; rw [hc]; trivial) enc W fuel2 _ _ hf2
    (fun n hn => by simpa using List.all_eq_true.1 hsz n (DataW.weights_mem_each (j := 2) rfl rfl n hn))
  have rep2 := RepVs.one hreps2
  obtain ⟨a3, len3, cap3, rfl⟩ := okWide_slice Try.underlying29 (hval 3 29 v3 rfl rfl)
  have k3 := h3
  have lt3 : ∀ x ∈ p3, x.block < W.heap.size := by obtain ⟨m, hm⟩ := k3; exact DataW.trod_lt m _ _ _ hm
  obtain ⟨fuel3, hf3⟩ := h3
  obtain ⟨x3, inv3, hreps3⟩ := Opens.slice Try.underlying29 (sz := 1) (by kernel_rfl) (by decide) (by_ := 24) (by kernel_rfl) (by decide) (Opens.slice Try.underlying22 (sz := 1) (by kernel_rfl) (by decide) (by_ := 1) (by kernel_rfl) (by decide) (Opens.u8 Try.underlying5) (fun _ => rfl) (fun a c hc => by simp [byteC] at hc; rw [hc]; trivial)) (fun _ => rfl) (fun a c hc => by simp at hc; rw [hc]; trivial) enc W fuel3 _ _ hf3
    (fun n hn => by simpa using List.all_eq_true.1 hsz n (DataW.weights_mem_each (j := 3) rfl rfl n hn))
  have rep3 := RepVs.one hreps3
  clear hA0 hval0 hsz0 hsz
  refine ((c_FnExactReadColumn x0 inv0 x1 x2 inv2 x3 inv3).runs W (fun b => b < W.heap.size) (fun _ => False) [] _ (fun b hb => by simpa using hb) ⟨_, _, rfl, rep0, _, _, rfl, rep1, _, _, rfl, rep2, _, _, rfl, rep3, rfl⟩).mono fun e W' ⟨r, v, L, hr, he, hrep, _, bel⟩ => ?_
  subst he; subst hr
  obtain ⟨rfl, _⟩ := hrep
  exact ⟨_, rfl, _, _, _, [], _, [], hW', trodAll_mk1 (shut_bool Try.underlying4 _), (trodAll_cons_mk (Below.trod laidOut (by kernel_rfl) (of_decide_eq_true (by kernel_rfl)) k0 bel lt0) (trodAll_cons_mk (Below.trod laidOut (by kernel_rfl) (of_decide_eq_true (by kernel_rfl)) k1 bel lt1) (trodAll_cons_mk (Below.trod laidOut (by kernel_rfl) (of_decide_eq_true (by kernel_rfl)) k2 bel lt2) (trodAll_cons_mk (Below.trod laidOut (by kernel_rfl) (of_decide_eq_true (by kernel_rfl)) k3 bel lt3) trodAll_mk0)))), rfl, bel.frame _, fun h => by cases h⟩
end Go.Proofs.Ytcmkgoflnfchcaa.fnExactReadColumn
namespace Go.Proofs.Ytcmkgoflnfchcaa
theorem fnExactReadColumn_holds : Rows.FnExactReadColumnSaid :=
  OpenClaim.holds_of_wide 9 Try.f9 rfl rfl rfl rfl rfl rfl rfl ⟨rfl, rfl, rfl, rfl, rfl⟩ rfl rfl rfl rfl rfl (by kernel_rfl) Try.func9 fnExactReadColumn.jall
    (of_decide_eq_true (by kernel_rfl)) (by unfold Func.isWrapper; first | (rw [if_pos (by decide +kernel)]; kernel_rfl) | (rw [if_neg (by decide +kernel)]; exact ⟨rfl, rfl⟩))
    (fun os started H enc _ => fnExactReadColumn.lifted os started H enc)
end Go.Proofs.Ytcmkgoflnfchcaa
#print axioms Go.Proofs.Ytcmkgoflnfchcaa.fnExactReadColumn_holds
