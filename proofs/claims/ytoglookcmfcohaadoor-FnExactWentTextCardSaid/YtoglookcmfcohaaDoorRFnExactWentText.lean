/- The program's WentText returns what the reference's returns, for all arguments; the library's three tables start as the program's text lays them. -/
import Derived.Test.YtoglookcmfcohaaDoorCards
import Derived.Test.YtoglookcmfcohaaDoorTie
import Derived.Test.YtoglookcmfcohaaDoorRd
import Derived.Test.YtoglookcmfcohaaDoorHe
import Derived.WalkKit
import Derived.ProofKit
import Derived.OpenShut
import Derived.ChangeOld
import Derived.Below
import Derived.SizedLaws
import Derived.Handed
import Derived.LaidMore
import Derived.SevenTiedAt
import Derived.Stop.Joined
import Derived.Lib.LaidTab
import Derived.Stop.LaidErr
namespace Go.Proofs.YtoglookcmfcohaaDoor.fnExactWentText
open Go.ChangeShapes Go.WideShapes Go.ChangeAt Go.RowKit Go.Proofs.YtoglookcmfcohaaDoor.Rd Go.Proofs.YtoglookcmfcohaaDoorW.PrintWords
set_option linter.unusedVariables false
set_option linter.unusedSimpArgs false
theorem own : ownKnob Tryd.prog.godebug = none := by kernel_rfl
theorem laidOut : laidOutB Tryd.prog = true := by kernel_rfl
theorem reads0 : Reads Tryd.prog 24 (Kd.pair (Kd.slice 3 (Kd.int .i64)) (Kd.slice 3 (Kd.int .i64))) (fun x => (fun l => l.length * 8 ≤ 140737488351232 ∧ ∀ x ∈ l, (fun n => (Lit.int .i64 n).wf = true) x) x.1 ∧ (fun l => l.length * 8 ≤ 140737488351232 ∧ ∀ x ∈ l, (fun n => (Lit.int .i64 n).wf = true) x) x.2) := (Reads.struct Tryd.underlying24 (by kernel_rfl) (RF.cons (by rfl) (by kernel_rfl) (Reads.slice (B := 8) Tryd.underlying22 (by kernel_rfl) (by kernel_rfl) (Reads.int Tryd.underlying3)) (RF.one (by rfl) (by kernel_rfl) (Reads.slice (B := 8) Tryd.underlying22 (by kernel_rfl) (by kernel_rfl) (Reads.int Tryd.underlying3)))))
def laidL : List (String × DataW Unit) := [("math/bits.deBruijn32tab", Rows.laid_math_bits_deBruijn32tab), ("math/bits.deBruijn64tab", Rows.laid_math_bits_deBruijn64tab), ("internal/strconv.uint64pow10", Rows.laid_internal_strconv_uint64pow10)]
theorem door_met (os : Os) (args : Array Value) : laidMetH Tryd.prog laidL ((World.doorLaid Tryd.prog 400 os).forCall (fun _ _ => 0) ⟨#[], args, []⟩).memory :=
  laidMetH_of_parts3 (fuel := 8) (laidMet_of_run' 8 (by kernel_rfl) (by kernel_rfl)) (by kernel_rfl) (by kernel_rfl)
theorem tabs_of {W : World} (h : laidMetH Tryd.prog laidL W) : Tabs W := by
  rw [MakeChecks.laidMetH_plain _ _ _ (by kernel_rfl)] at h
  replace h := laidMet.tail h
  replace h := laidMet.tail h
  exact Lib.tabIs_of_head (g := 0) (t := 60) (e := 53) (n := 20) (by kernel_rfl) (by kernel_rfl) Tryd.underlying60 Tryd.underlying53 (by kernel_rfl) (by kernel_rfl) h
theorem in64 {l : List Int} (h : ∀ x ∈ l, (Lit.int .i64 x).wf = true) : Wt.In64 l := fun x hx => wf64 (h x hx)
/-- The walk: what is read is two rows of numbers. -/
theorem walk {cs : Array Value} (W : World) (hT : Tabs W) {a : List Int × List Int} (h : (Kd.pair (Kd.slice 3 (Kd.int .i64)) (Kd.slice 3 (Kd.int .i64))).K W a cs.toList)
    (ok : (a.1.length * 8 ≤ 140737488351232 ∧ ∀ x ∈ a.1, (Lit.int .i64 x).wf = true) ∧ a.2.length * 8 ≤ 140737488351232 ∧ ∀ x ∈ a.2, (Lit.int .i64 x).wf = true) :
    Calls Tryd.prog 3 #[.agg cs] W fun e w' => e = .returned (.bool true) ∧ Below W.heap.size W w' := by
  obtain ⟨c0, c1, e, ⟨A0, n0, rfl, hl0, hr0⟩, ⟨A1, n1, rfl, hl1, hr1⟩⟩ := h
  obtain ⟨k, h⟩ := He.exact_law a.1 a.2 (in64 ok.1.2) (in64 ok.2.2) (by have := ok.1.1; omega) (by have := ok.2.1; omega)
  obtain rfl : cs = #[.slice A0 a.1.length n0, .slice A1 a.2.length n1] := by cases cs; simpa using e
  exact P.laws_FnExactWentText.calls (hT := hT) k _ _ a.1 _ _ a.2 true W hr0 hl0 hr1 hl1 h
set_option maxRecDepth 100000 in
set_option maxHeartbeats 1000000 in
theorem lifted (os : Os) (started : os.Started) (H : Type) (enc : TypeId × Value → H) :
    ReturnsInHanded {} Tryd.checked os 3 .any (fun w args => (Rows.fnExactWentTextSpec.pre enc Tryd.prog Tryd.f3 Rows.fnExactWentTextRow.domain false w args ∧ laidMetH Tryd.prog laidL w) ∧ sizedMet enc Tryd.prog Tryd.f3 (OpenSpec.ofChange Rows.fnExactWentTextSpec) false w args) (Rows.fnExactWentTextSpec.post enc Tryd.prog Tryd.f3 false true false false) := by
  refine returnsInHanded_of_change_and (C := Tryd.checked) (X := fun w _ => laidMetH Tryd.prog laidL w) (fun _ _ _ hh h => h.of_heap hh) own started (by kernel_rfl) Tryd.func3
    (ChangeSpec.witness_shaped (enc := enc) (C := Tryd.checked) (os := os) (X := fun w _ => laidMetH Tryd.prog laidL w) false (World.doorLaid Tryd.prog 400 os) #[.agg #[.slice none 0 0, .slice none 0 0]] 8 rfl (World.shaped_of_RefB (by kernel_rfl) (by kernel_rfl)) (by kernel_rfl) (by kernel_rfl) (by kernel_rfl) (door_met os _)) ?_
  intro W base args ds gs before hval0 hW hcnd hsz0 hL _
  have hsz : (DataW.weightsEach Tryd.prog (Tryd.f3.params.toList ++ Rows.fnExactWentTextSpec.plain.varTypes Tryd.prog) (ds ++ gs)).all (· ≤ reachBytes) = true := hsz0
  have hval : ∀ (j : Nat) t v, Tryd.f3.params[j]? = some t → args[j]? = some v → Value.okWide Tryd.prog W .any base t v := hval0
  have hW' := hW
  obtain ⟨p, q, hA0, hV, rfl, hfz, hnd⟩ := hW
  have hA : DataW.TrodAll enc Tryd.prog W 0 (fun _ => true) true Tryd.f3.params.toList args.toList ds p := hA0
  rw [Tryd.params3] at hA hval hsz
  obtain ⟨v0, vs0, d0, ds0, p0, q0, hargs, rfl, rfl, h0, r0⟩ := trodAll_cons hA
  obtain ⟨rfl, rfl, rfl⟩ := trodAll_nil r0
  obtain rfl : args = #[v0] := by cases args; simp_all
  obtain ⟨rfl, rfl⟩ := trodVars_none hV
  have hT := tabs_of hL
  have k0 := h0
  have lt0 : ∀ x ∈ p0, x.block < W.heap.size := by obtain ⟨m, hm⟩ := k0; exact DataW.trod_lt m _ _ _ hm
  obtain ⟨m0, hm0⟩ := h0
  obtain ⟨a0, ka0, ok0⟩ := reads0.go hm0 (weights_each hsz (i := 0) rfl rfl)
  obtain ⟨cs0, rfl, hcs0⟩ := okWide_struct Tryd.underlying24 (hval 0 24 v0 rfl rfl)
  have kb0 : (Kd.pair (Kd.slice 3 (Kd.int .i64)) (Kd.slice 3 (Kd.int .i64))).K W a0 cs0.toList := ka0
  clear hA0 hval0 hsz0 hsz
  refine (walk W hT kb0 ok0).mono fun e W' ⟨he, bel⟩ => ?_
  subst he
  exact ⟨_, rfl, _, _, _, [], _, [], hW', trodAll_mk1 (shut_bool Tryd.underlying4 _), (trodAll_cons_mk (Below.trod laidOut (by kernel_rfl) (of_decide_eq_true (by kernel_rfl)) k0 bel lt0) trodAll_mk0), rfl, bel.frame _, fun h => by cases h⟩
theorem over : Rows.fnExactWentTextRow.holds Tryd.pinned (OpenSpec.ofChange Rows.fnExactWentTextSpec) :=
  OpenClaim.holds_of_wide 3 Tryd.f3 rfl rfl rfl rfl rfl rfl rfl ⟨rfl, rfl, rfl, rfl, rfl⟩ rfl rfl rfl rfl rfl (by kernel_rfl) Tryd.func3 (by kernel_rfl)
    (of_decide_eq_true (by kernel_rfl)) (by unfold Func.isWrapper; first | (rw [if_pos (by decide +kernel)]; kernel_rfl) | (rw [if_neg (by decide +kernel)]; exact ⟨rfl, rfl⟩))
    (fun os started H enc _ => lifted os started H enc)
theorem proved : Rows.FnExactWentTextCardSaid :=
  Claim7.holds_tied_plain_at .later [] [.data, .data, .data] true (true, "66ba977e6fec690ad3339883df261d7d6f82e8d680249c5ac96579f63c3ce177") false
    over (fun _ h => by cases h) (by kernel_rfl) (fun _ h => by cases h) fnExactWentText_row_tie rfl ⟨rfl, rfl⟩ (by kernel_rfl) rfl
    (fun f fn hf hfn => by
      obtain rfl : f = 3 := Option.some.inj ((show Tryd.prog.funcNamed "loop.example/g00238/laws.FnExactWentText" = some 3 by kernel_rfl).symm.trans hf) |>.symm
      obtain rfl : fn = Tryd.f3 := (Option.some.inj (Tryd.func3.symm.trans hfn)).symm
      exact ⟨by kernel_rfl, fun j t ht => by
        rw [Tryd.params3] at ht
        have hm : t ∈ [24] := by simpa using Array.mem_of_getElem? ht
        have hall : ([24].all fun u => !Tryd.prog.wantsStandIn u) = true := by kernel_rfl
        exact (show Tryd.prog.wantsStandIn t = false by simpa using List.all_eq_true.1 hall t hm)⟩)
    (by kernel_rfl)
#print axioms proved
end Go.Proofs.YtoglookcmfcohaaDoor.fnExactWentText
namespace Go.Proofs.YtoglookcmfcohaaDoor
theorem fnExactWentText_holds : Rows.FnExactWentTextCardSaid := fnExactWentText.proved
end Go.Proofs.YtoglookcmfcohaaDoor
