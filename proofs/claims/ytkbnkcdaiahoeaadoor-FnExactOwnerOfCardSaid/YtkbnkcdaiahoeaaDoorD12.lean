/- FnExactOwnerOf returns true for every input, as a tied card. No condition. -/
import Derived.Test.YtkbnkcdaiahoeaaDoorD10
import Derived.Test.YtkbnkcdaiahoeaaDoorAwX
import Derived.Test.YtkbnkcdaiahoeaaDoorRows
import Derived.Test.YtkbnkcdaiahoeaaDoorTie
import Derived.Test.YtkbnkcdaiahoeaaDoorCards
import Derived.ProofKit
import Derived.SizedLaws
import Derived.Lib.SmallJoins
import Derived.Lay
import Derived.LaidLaws
import Derived.SevenTiedAt
namespace Go.Proofs.YtkbnkcdaiahoeaaDoor
open Go.ChangeShapes Go.WideShapes Go.ChangeAt Go.RowKit
set_option maxRecDepth 100000
set_option linter.unusedVariables false
theorem own : ownKnob Tryd.prog.godebug = none := by kernel_rfl
theorem laidOut : laidOutB Tryd.prog = true := by kernel_rfl
theorem u4 : Tryd.prog.underlying 4 = some .bool := by kernel_rfl
theorem has_ow {d : D} (h : Has (.sl [.str, .str]) d) : ∃ os, d = .of owX os ∧ os.length ≤ reachBytes := h.ofn fun e he => by
  obtain ⟨d0, e, rfl, k0, he⟩ := he.c
  obtain ⟨d1, e, rfl, k1, he⟩ := he.c
  obtain rfl := he.n
  obtain ⟨s0, rfl⟩ := k0.s
  obtain ⟨s1, rfl⟩ := k1.s
  exact ⟨⟨s0, s1⟩, rfl⟩
theorem has_law (xs : List X) (h : HasXs [(false, [.sl [.str, .str]]), (false, [.str])] xs) : Fun Tryd.prog 5 xs (.d (.bool true)) := by
  obtain ⟨x, xs, rfl, h1, h⟩ := h.c
  obtain ⟨y, xs, rfl, h2, h⟩ := h.c
  obtain rfl := h.n
  obtain ⟨d, rfl, h3⟩ := h1.s
  obtain ⟨os, rfl, hn⟩ := has_ow h3
  obtain ⟨d, rfl, h4⟩ := h2.s
  obtain ⟨path, rfl, hp⟩ := h4.sz
  exact exactOwnerOf_law os path hp hn
theorem exactOwnerOf_lifted (os : Os) (started : os.Started) (H : Type) (enc : TypeId × Value → H) :
    ReturnsInHanded {} Tryd.checked os 5 .any (fun w args => (Rows.fnExactOwnerOfSpec.pre enc Tryd.prog Tryd.f5 Rows.fnExactOwnerOfRow.domain false w args ∧ laidMetH Tryd.prog Rows.fnExactOwnerOfRow.laid w) ∧ sizedMet enc Tryd.prog Tryd.f5 (OpenSpec.ofChange Rows.fnExactOwnerOfSpec) false w args)
      (Rows.fnExactOwnerOfSpec.post enc Tryd.prog Tryd.f5 false true false false) := by
  refine returnsInHanded_of_change_and (C := Tryd.checked) (X := fun w _ => laidMetH Tryd.prog Rows.fnExactOwnerOfRow.laid w) (fun _ _ _ hh h => h.of_heap hh) own started (by kernel_rfl) Tryd.func5
    (ChangeSpec.witness_shaped (enc := enc) (C := Tryd.checked) (os := os) (X := fun w _ => laidMetH Tryd.prog Rows.fnExactOwnerOfRow.laid w) false (World.laidAll Tryd.prog os Rows.fnExactOwnerOfRow.laid) #[.slice none 0 0, .string ByteArray.empty] 8 (World.laidAll_os _ _ _)
      (World.shaped_of_ZipB (by kernel_rfl) (by kernel_rfl)) (by kernel_rfl) (by kernel_rfl) (by kernel_rfl)
      (by rw [MakeChecks.laidMetH_plain _ _ _ (by kernel_rfl)]; exact laidMet_laidAll _ (by kernel_rfl) (by kernel_rfl))) ?_
  intro W base args ds gs before hval0 hW hcnd hwt _ _
  have hW' := hW
  have hlt := hW.lt
  obtain ⟨p, q, hA, hV, rfl, hfz, hnd⟩ := hW
  obtain ⟨rfl, rfl⟩ := trodVars_none hV
  simp only [List.append_nil] at hW' hlt
  have hwt' : ∀ n ∈ DataW.weightsEach Tryd.prog Tryd.f5.params.toList ds, n ≤ reachBytes := by
    have e : DataSpec.varTypes Tryd.checked.prog Rows.fnExactOwnerOfSpec.plain = [] := by kernel_rfl
    rw [e, List.append_nil, List.append_nil] at hwt
    intro n hn
    exact of_decide_eq_true (List.all_eq_true.1 hwt n hn)
  have hval : ∀ (j : Nat) t v, Tryd.f5.params.toList[j]? = some t → args.toList[j]? = some v → Value.okWide Tryd.prog W .any base t v := fun j t v h1 h2 => hval0 j t v (by simpa using h1) (by simpa using h2)
  refine (law_call laidOut (f := 5) (ts := Tryd.f5.params.toList) (az := [(false, [.sl [.str, .str]]), (false, [.str])]) (by kernel_rfl) (of_decide_eq_true (by kernel_rfl)) has_law hval hwt' hA hlt).mono fun e W' ⟨he, hb, hback⟩ => ?_
  subst he
  obtain ⟨v0, v1, d0, d1, p0, p1, rfl, rfl, rfl, h0, h1⟩ := trodAll_two hA
  exact ⟨_, rfl, ⟨_, _, _, [], _, [], hW', trodAll_mk1 (shut_bool u4 true), hback _ (fun x hx => by simpa using hlt x hx), rfl, hb.frame _, fun h => by cases h⟩⟩

theorem exactOwnerOf_holds : Rows.FnExactOwnerOfSaid :=
  OpenClaim.holds_of_wide 5 Tryd.f5 rfl rfl rfl rfl rfl rfl rfl ⟨rfl, rfl, rfl, rfl, rfl⟩ rfl rfl rfl rfl rfl (by kernel_rfl) Tryd.func5 (by kernel_rfl)
    (of_decide_eq_true (by kernel_rfl)) (by unfold Func.isWrapper; first | (rw [if_pos (by decide +kernel)]; kernel_rfl) | (rw [if_neg (by decide +kernel)]; exact ⟨rfl, rfl⟩))
    (fun os started H enc _ => exactOwnerOf_lifted os started H enc)
theorem exactOwnerOf_card : Rows.FnExactOwnerOfCardSaid :=
  Claim7.holds_tied_plain_at .later [] [.data, .pinned] true (true, "5a59ff29b8e9fb3f255beaf172398f9f25cee75c4092136d6db14cb5173aa2db") true exactOwnerOf_holds (fun _ h => by cases h) (by kernel_rfl) (fun _ h => by cases h) fnExactOwnerOf_row_tie rfl ⟨rfl, rfl⟩ (by kernel_rfl) rfl
    (fun f fn hf hfn => by
      obtain rfl : f = 5 := Option.some.inj ((show Tryd.prog.funcNamed "loop.example/stemma/laws.FnExactOwnerOf" = some 5 by kernel_rfl).symm.trans hf) |>.symm
      obtain rfl : fn = Tryd.f5 := (Option.some.inj (Tryd.func5.symm.trans hfn)).symm
      exact ⟨by kernel_rfl, fun j t ht => by
        rw [Tryd.params5] at ht
        have hm : t ∈ [22, 9] := by simpa using Array.mem_of_getElem? ht
        have hall : ([22, 9].all fun u => !Tryd.prog.wantsStandIn u) = true := by kernel_rfl
        exact (show Tryd.prog.wantsStandIn t = false by simpa using List.all_eq_true.1 hall t hm)⟩)
    (by kernel_rfl)
end Go.Proofs.YtkbnkcdaiahoeaaDoor
