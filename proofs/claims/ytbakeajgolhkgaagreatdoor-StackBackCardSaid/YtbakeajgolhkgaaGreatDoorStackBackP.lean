/- The statement 'StackBack', a tied card: for every position and the like the law returns true. No condition; the one listed variable is tied to the program's text. -/
import Derived.Test.YtbakeajgolhkgaaGreatDoorRows
import Derived.Test.YtbakeajgolhkgaaGreatDoorCards
import Derived.Test.YtbakeajgolhkgaaGreatDoorTie
import Derived.WalkKit
import Derived.ProofKit
import Derived.LaidMore
import Derived.OpenShut
import Derived.ShutString
import Derived.Stop.Joined
import Derived.SevenTiedAt
import Derived.Test.YtbakeajgolhkgaaGreatDoorZa
import Derived.Test.YtbakeajgolhkgaaGreatDoorZc
import Derived.Carry
import Derived.Test.YtbakeajgolhkgaaGreatDoorSe
namespace Go.Proofs.YtbakeajgolhkgaaGreatDoor.stackBack
open Go.ChangeShapes Go.WideShapes Go.ChangeAt Go.RowKit
open Go.WideMaps Go.WideElems
open Go.ChangeMaps (setBlock shut_map_nil open_string shut_string keptBut_setBlock frozen?_setBlock heap_setBlock_same)

theorem plain_params (l : List TypeId) (h : l.all (fun t => !Tryz.prog.wantsStandIn t) = true) (j : Nat) (t : TypeId) (ht : l.toArray[j]? = some t) : Tryz.prog.wantsStandIn t = false := by
  rw [List.getElem?_toArray] at ht
  have := List.all_eq_true.1 h t (List.mem_of_getElem? ht)
  simpa using this
theorem own : ownKnob Tryz.prog.godebug = none := by kernel_rfl

set_option maxRecDepth 100000 in
theorem lifted (os : Os) (started : os.Started) (H : Type) (enc : TypeId × Value → H) :
    ReturnsInHanded {} Tryz.checked os 8 .any (fun w args => (Rows.stackBackSpec.pre enc Tryz.prog Tryz.f8 [] false w args ∧ laidMetH Tryz.prog Rows.stackBackRow.laid w) ∧ sizedMet enc Tryz.prog Tryz.f8 (OpenSpec.ofChange Rows.stackBackSpec) false w args)
      (Rows.stackBackSpec.post enc Tryz.prog Tryz.f8 false true false false) := by
  refine returnsInHanded_of_change_and (C := Tryz.checked) (X := fun w _ => laidMetH Tryz.prog Rows.stackBackRow.laid w) (fun _ _ _ hh h => h.of_heap hh) own started (by kernel_rfl) Tryz.func8
    (ChangeSpec.witness_shaped (enc := enc) (C := Tryz.checked) (os := os) (X := fun w _ => laidMetH Tryz.prog Rows.stackBackRow.laid w) false (World.doorLaid Tryz.prog 400 os) #[.agg (posC fun _ => 0), .slice none 0 0, .int .i64 0] 8 rfl (World.shaped_of_RefB (by kernel_rfl) (by kernel_rfl)) (by kernel_rfl) (by kernel_rfl) (by kernel_rfl) (door_met os _)) ?_
  intro W base args ds gs before hval0 hW _ _ hL _
  have hval : ∀ (j : Nat) t v, Tryz.f8.params[j]? = some t → args[j]? = some v → Value.okWide Tryz.prog W .any base t v := hval0
  have hW' := hW
  obtain ⟨p, q, hA0, hV, rfl, hfz, hnd⟩ := hW
  have hA : DataW.TrodAll enc Tryz.prog W 0 (fun _ => true) true Tryz.f8.params.toList args.toList ds p := hA0
  rw [Tryz.params8] at hA hval
  obtain ⟨v0, vs0, d0, ds0, p0, q0, hargs, rfl, rfl, h0, r0⟩ := trodAll_cons hA
  obtain ⟨v1, vs1, d1, ds1, p1, q1, rfl, rfl, rfl, h1, r1⟩ := trodAll_cons r0
  obtain ⟨v2, vs2, d2, ds2, p2, q2, rfl, rfl, rfl, h2, r2⟩ := trodAll_cons r1
  obtain ⟨rfl, rfl, rfl⟩ := trodAll_nil r2
  obtain rfl : args = #[v0, v1, v2] := by cases args; simp_all
  obtain ⟨rfl, rfl⟩ := trodVars_none hV
  obtain ⟨c0, rfl, rfl, wf0⟩ := open_pos (hval 0 31 v0 rfl rfl) h0
  obtain ⟨N1, x1, rd1⟩ := open_nums (hval 1 78 v1 rfl rfl) h1
  obtain ⟨a2, rfl, rfl, rfl, wf2⟩ := open_int Tryz.underlying3 (hval 2 3 v2 rfl rfl) h2
  have bd2 := bounds_i64 wf2
  have hT := tb_of_laid hL
  clear hA0 hval0
  simp only [List.append_nil, List.nil_append] at hW'
  refine (stackBack_walk c0 N1 x1 v1 a2 W wf0 rd1 hT).mono fun e W' ⟨he, hg⟩ => ?_
  subst he
  exact ⟨_, rfl, _, _, _, [], _, [], hW', trodAll_cons_mk (shut_bool Tryz.underlying4 _) trodAll_mk0, (trodAll_cons_mk (shut_pos h0) (trodAll_cons_mk (Below.trod (by kernel_rfl) (by kernel_rfl) (of_decide_eq_true (by kernel_rfl)) h1 hg (fun x hx => by simpa using hW'.lt x (by simp [hx]))) (trodAll_cons_mk (shut_int Tryz.underlying3 wf2) trodAll_mk0))), rfl, hg.frame _, fun h => by cases h⟩

set_option maxRecDepth 100000
theorem cl0 : Rows.stackBackRow.wf (OpenSpec.ofChange Rows.stackBackSpec) = true := by kernel_rfl
theorem cl1 : laidOutB Tryz.pinned.checked.prog = true := by kernel_rfl
theorem cl2 : mapsRowed Tryz.pinned.checked.prog = true := by kernel_rfl
theorem cl3 : Tryz.f8.params.all (Tryz.pinned.checked.prog.readableRec ·) = true := by kernel_rfl
theorem cl4 : namedTie Tryz.pinned.checked.prog Rows.stackBackRow.named Rows.stackBackSpec.vars = true := by kernel_rfl
theorem cl5 : (Rows.stackBackRow.stops == []) = true := by kernel_rfl
theorem cl6 : (Tryz.pinned.checked.prog.stops == []) = true := by kernel_rfl
theorem cl7 : (Rows.stackBackRow.knobs == []) = true := by kernel_rfl
theorem cl8 : (Tryz.pinned.checked.prog.stopKnobs == []) = true := by kernel_rfl
theorem cl9 : (Rows.stackBackRow.inPlace == Tryz.pinned.checked.prog.inPlace 8) = true := by kernel_rfl
theorem cl10 : (Rows.stackBackRow.unfollowed == Tryz.pinned.checked.prog.unfollowed 8) = true := by kernel_rfl
theorem cl11 : (Rows.stackBackRow.recurses == Tryz.pinned.checked.prog.recurses 8) = true := by kernel_rfl
theorem cl12 : (Rows.stackBackRow.named == Tryz.pinned.checked.prog.varsNamed 8) = true := by kernel_rfl
theorem cl13 : (Rows.stackBackRow.maps == (Tryz.f8.params.toList ++ Rows.stackBackSpec.plain.varTypes Tryz.pinned.checked.prog).any (Tryz.pinned.checked.prog.mapsRec ·)) = true := by kernel_rfl
theorem cl14 : (Rows.stackBackRow.ifaces == (Tryz.f8.params.toList ++ Rows.stackBackSpec.plain.varTypes Tryz.pinned.checked.prog).any (Tryz.pinned.checked.prog.ifacesRec ·)) = true := by kernel_rfl
theorem cl15 : (Rows.stackBackRow.mapsOut == Tryz.pinned.checked.prog.mapsAmong Tryz.f8.resultTypes.toList) = true := by kernel_rfl
theorem cl16 : (Rows.stackBackRow.loops == (Tryz.f8.params.toList ++ Rows.stackBackSpec.plain.varTypes Tryz.pinned.checked.prog).any (Tryz.pinned.checked.prog.loopsFrom ·)) = true := by kernel_rfl
theorem cl17 : (Rows.stackBackRow.wideKeys == (Tryz.f8.params.toList ++ Rows.stackBackSpec.plain.varTypes Tryz.pinned.checked.prog ++ Tryz.f8.resultTypes.toList).any (Tryz.pinned.checked.prog.wideKeysFrom ·)) = true := by kernel_rfl
theorem cl18 : Rows.stackBackSpec.vars.all (Tryz.pinned.checked.prog.varReadable ·) = true := by kernel_rfl
theorem cl19 : Tryz.f8.resultTypes.all (fun t => Tryz.pinned.checked.prog.readableRec t && decide (t < Tryz.pinned.checked.prog.types.size)) = true := by kernel_rfl
theorem cl20 : (Rows.stackBackRow.ifacesOut == Tryz.f8.resultTypes.toList.any (Tryz.pinned.checked.prog.ifacesRec ·)) = true := by kernel_rfl
theorem cl21 : (Rows.stackBackRow.loopsOut == Tryz.f8.resultTypes.toList.any (Tryz.pinned.checked.prog.loopsFrom ·)) = true := by kernel_rfl
theorem cl22 : (Rows.stackBackRow.plainKeys == Tryz.pinned.checked.prog.plainKeys) = true := by kernel_rfl
theorem cl23 : Rows.stackBackRow.shortTexts.isNone = true := by kernel_rfl
theorem cl24 : Tryz.pinned.checked.prog.stopsHeard = true := by kernel_rfl
theorem cl25 : Tryz.pinned.checked.prog.mayEnter = true := by kernel_rfl
theorem cl26 : (Rows.stackBackRow.lifted == Tryz.pinned.checked.prog.liftsFinal) = true := by kernel_rfl
theorem cl27 : (Tryz.pinned.checked.prog.make == some Rows.stackBackRow.make) = true := by kernel_rfl
theorem cl28 : (Rows.stackBackRow.kinds == (if Rows.stackBackRow.domain.isEmpty then [] else Tryz.f8.params.toList.map fun t => match Tryz.pinned.checked.prog.underlying t with | some (.int k) => some k | _ => none)) = true := by kernel_rfl
theorem cl29 : (Rows.stackBackRow.pinned == Rows.stackBackRow.pinnedBy) = true := by kernel_rfl
theorem cl30 : (Rows.stackBackRow.veiled == (Tryz.f8.params.toList ++ Rows.stackBackSpec.plain.varTypes Tryz.pinned.checked.prog ++ Tryz.f8.resultTypes.toList).any (Tryz.pinned.checked.prog.veiledRec ·)) = true := by kernel_rfl
theorem cl31 : Rows.stackBackRow.veiledFits Tryz.pinned.checked.prog Tryz.f8.params.toList (Tryz.f8.params.toList ++ Rows.stackBackSpec.plain.varTypes Tryz.pinned.checked.prog ++ Tryz.f8.resultTypes.toList) = true := by kernel_rfl
theorem and_b {a b : Bool} (h : a = true) (k : b = true) : (a && b) = true := by rw [h, k]; rfl
theorem closed : joinedFacts Tryz.pinned.checked.prog 8 Tryz.f8 Rows.stackBackSpec Rows.stackBackRow = true := and_b (and_b (and_b (and_b (and_b (and_b (and_b (and_b (and_b (and_b (and_b (and_b (and_b (and_b (and_b (and_b (and_b (and_b (and_b (and_b (and_b (and_b (and_b (and_b (and_b (and_b (and_b (and_b (and_b (and_b (and_b cl0 cl1) cl2) cl3) cl4) cl5) cl6) cl7) cl8) cl9) cl10) cl11) cl12) cl13) cl14) cl15) cl16) cl17) cl18) cl19) cl20) cl21) cl22) cl23) cl24) cl25) cl26) cl27) cl28) cl29) cl30) cl31
theorem over : Rows.stackBackRow.holds Tryz.pinned (OpenSpec.ofChange Rows.stackBackSpec) :=
  OpenClaim.holds_of_wide 8 Tryz.f8 rfl rfl rfl rfl rfl rfl rfl ⟨rfl, rfl, rfl, rfl, rfl⟩ rfl rfl rfl rfl rfl (by kernel_rfl) Tryz.func8 closed
    (of_decide_eq_true (by kernel_rfl)) (by unfold Func.isWrapper; first | (rw [if_pos (by decide +kernel)]; kernel_rfl) | (rw [if_neg (by decide +kernel)]; exact ⟨rfl, rfl⟩))
    (fun os started H enc _ => lifted os started H enc)

theorem pw : Rows.stackBackRow.wfByText (OpenSpec.ofChange Rows.stackBackSpec) = true := by kernel_rfl
theorem pm : Tryz.pinned.checked.prog.mainIs = some (true, "229ddeef9b05e6e9f38e4562323b10cf52e1a21da2d80309d48cdae820c6d416".toList) := by kernel_rfl
theorem pl : true = Tryz.pinned.checked.prog.looks [] := by kernel_rfl
theorem pg : false = Rows.stackBackRow.goesBy Tryz.pinned.checked.prog := by kernel_rfl
theorem pn : Tryz.prog.funcNamed "kibitzer/kibitzerlaw20.StackBack" = some 8 := by kernel_rfl
/-- The statement. -/
theorem proved : Rows.StackBackCardSaid :=
  Claim7.holds_tied_plain_at .later [] [.data] true (true, "229ddeef9b05e6e9f38e4562323b10cf52e1a21da2d80309d48cdae820c6d416") true
    over (fun _ h => by cases h) pw (fun _ h => by cases h) stackBack_row_tie rfl ⟨rfl, rfl⟩ pm rfl
    (fun f fn hf hfn => by
      obtain rfl : f = 8 := Option.some.inj (pn.symm.trans hf) |>.symm
      obtain rfl : fn = Tryz.f8 := (Option.some.inj (Tryz.func8.symm.trans hfn)).symm
      exact ⟨pl, fun j t ht => by
        rw [Tryz.params8] at ht
        exact plain_params _ (by decide +kernel) j t ht⟩)
    pg
#print axioms proved
end Go.Proofs.YtbakeajgolhkgaaGreatDoor.stackBack
