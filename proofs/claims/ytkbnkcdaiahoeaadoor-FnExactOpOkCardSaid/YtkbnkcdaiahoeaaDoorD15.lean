/- FnExactOpOk returns true for every input, as a tied card. No condition. -/
import Derived.Test.YtkbnkcdaiahoeaaDoorD14
import Derived.Test.YtkbnkcdaiahoeaaDoorAwX
import Derived.Test.YtkbnkcdaiahoeaaDoorRows
import Derived.Test.YtkbnkcdaiahoeaaDoorTie
import Derived.Test.YtkbnkcdaiahoeaaDoorCards
import Derived.ProofKit
import Derived.SizedLaws
import Derived.Lib.SmallJoins
import Derived.Lay
import Derived.LaidLaws
import Derived.SevenTiedAt
namespace Go.Proofs.YtkbnkcdaiahoeaaDoor
open Go.ChangeShapes Go.WideShapes Go.ChangeAt Go.RowKit
set_option maxRecDepth 100000
set_option linter.unusedVariables false
theorem own : ownKnob Tryd.prog.godebug = none := by kernel_rfl
theorem laidOut : laidOutB Tryd.prog = true := by kernel_rfl
theorem u4 : Tryd.prog.underlying 4 = some .bool := by kernel_rfl
theorem has_strs {d : D} (h : Has (.sl [.str]) d) : ∃ ss, d = .of sS ss := h.of (f := sS) fun e he => by
  obtain ⟨d, ds, rfl, h1, h2⟩ := he.c
  obtain ⟨s, rfl⟩ := h1.s
  obtain rfl := h2.n
  exact ⟨s, rfl⟩
theorem has_law (xs : List X) (h : HasXs [(true, [.int .i64, .str, .str, .str, .str, .int .i64, .sl [.str]])] xs) : Fun Tryd.prog 6 xs (.d (.bool true)) := by
  obtain ⟨x, xs, rfl, h1, h⟩ := h.c
  obtain rfl := h.n
  obtain ⟨ds, rfl, h4⟩ := h1.a
  obtain ⟨d0, e, rfl, k0, he⟩ := h4.c
  obtain ⟨d1, e, rfl, k1, he⟩ := he.c
  obtain ⟨d2, e, rfl, k2, he⟩ := he.c
  obtain ⟨d3, e, rfl, k3, he⟩ := he.c
  obtain ⟨d4, e, rfl, k4, he⟩ := he.c
  obtain ⟨d5, e, rfl, k5, he⟩ := he.c
  obtain ⟨d6, e, rfl, k6, he⟩ := he.c
  obtain rfl := he.n
  obtain ⟨n0, rfl, -⟩ := k0.i
  obtain ⟨s1, rfl⟩ := k1.s
  obtain ⟨s2, rfl⟩ := k2.s
  obtain ⟨s3, rfl⟩ := k3.s
  obtain ⟨s4, rfl⟩ := k4.s
  obtain ⟨n5, rfl, -⟩ := k5.i
  obtain ⟨s6, rfl⟩ := has_strs k6
  exact opOk_law ⟨n0, s1, s2, s3, s4, n5, s6⟩
theorem exactOpOk_lifted (os : Os) (started : os.Started) (H : Type) (enc : TypeId × Value → H) :
    ReturnsInHanded {} Tryd.checked os 6 .any (fun w args => (Rows.fnExactOpOkSpec.pre enc Tryd.prog Tryd.f6 Rows.fnExactOpOkRow.domain false w args ∧ laidMetH Tryd.prog Rows.fnExactOpOkRow.laid w) ∧ sizedMet enc Tryd.prog Tryd.f6 (OpenSpec.ofChange Rows.fnExactOpOkSpec) false w args)
      (Rows.fnExactOpOkSpec.post enc Tryd.prog Tryd.f6 false true false false) := by
  refine returnsInHanded_of_change_and (C := Tryd.checked) (X := fun w _ => laidMetH Tryd.prog Rows.fnExactOpOkRow.laid w) (fun _ _ _ hh h => h.of_heap hh) own started (by kernel_rfl) Tryd.func6
    (ChangeSpec.witness_shaped (enc := enc) (C := Tryd.checked) (os := os) (X := fun w _ => laidMetH Tryd.prog Rows.fnExactOpOkRow.laid w) false (World.laidAll Tryd.prog os Rows.fnExactOpOkRow.laid) #[.agg #[.int .i64 0, .string ByteArray.empty, .string ByteArray.empty, .string ByteArray.empty, .string ByteArray.empty, .int .i64 0, .slice none 0 0]] 8 (World.laidAll_os _ _ _)
      (World.shaped_of_ZipB (by kernel_rfl) (by kernel_rfl)) (by kernel_rfl) (by kernel_rfl) (by kernel_rfl)
      (by rw [MakeChecks.laidMetH_plain _ _ _ (by kernel_rfl)]; exact laidMet_laidAll _ (by kernel_rfl) (by kernel_rfl))) ?_
  intro W base args ds gs before hval0 hW hcnd hwt _ _
  have hW' := hW
  have hlt := hW.lt
  obtain ⟨p, q, hA, hV, rfl, hfz, hnd⟩ := hW
  obtain ⟨rfl, rfl⟩ := trodVars_none hV
  simp only [List.append_nil] at hW' hlt
  have hwt' : ∀ n ∈ DataW.weightsEach Tryd.prog Tryd.f6.params.toList ds, n ≤ reachBytes := by
    have e : DataSpec.varTypes Tryd.checked.prog Rows.fnExactOpOkSpec.plain = [] := by kernel_rfl
    rw [e, List.append_nil, List.append_nil] at hwt
    intro n hn
    exact of_decide_eq_true (List.all_eq_true.1 hwt n hn)
  have hval : ∀ (j : Nat) t v, Tryd.f6.params.toList[j]? = some t → args.toList[j]? = some v → Value.okWide Tryd.prog W .any base t v := fun j t v h1 h2 => hval0 j t v (by simpa using h1) (by simpa using h2)
  refine (law_call laidOut (f := 6) (ts := Tryd.f6.params.toList) (az := [(true, [.int .i64, .str, .str, .str, .str, .int .i64, .sl [.str]])]) (by kernel_rfl) (of_decide_eq_true (by kernel_rfl)) has_law hval hwt' hA hlt).mono fun e W' ⟨he, hb, hback⟩ => ?_
  subst he
  obtain ⟨v0, d0, rfl, rfl, h0⟩ := trodAll_one hA
  exact ⟨_, rfl, ⟨_, _, _, [], _, [], hW', trodAll_mk1 (shut_bool u4 true), hback _ (fun x hx => by simpa using hlt x hx), rfl, hb.frame _, fun h => by cases h⟩⟩

theorem exactOpOk_holds : Rows.FnExactOpOkSaid :=
  OpenClaim.holds_of_wide 6 Tryd.f6 rfl rfl rfl rfl rfl rfl rfl ⟨rfl, rfl, rfl, rfl, rfl⟩ rfl rfl rfl rfl rfl (by kernel_rfl) Tryd.func6 (by kernel_rfl)
    (of_decide_eq_true (by kernel_rfl)) (by unfold Func.isWrapper; first | (rw [if_pos (by decide +kernel)]; kernel_rfl) | (rw [if_neg (by decide +kernel)]; exact ⟨rfl, rfl⟩))
    (fun os started H enc _ => exactOpOk_lifted os started H enc)
theorem exactOpOk_card : Rows.FnExactOpOkCardSaid :=
  Claim7.holds_tied_plain_at .later [] [.data, .pinned] true (true, "5a59ff29b8e9fb3f255beaf172398f9f25cee75c4092136d6db14cb5173aa2db") true exactOpOk_holds (fun _ h => by cases h) (by kernel_rfl) (fun _ h => by cases h) fnExactOpOk_row_tie rfl ⟨rfl, rfl⟩ (by kernel_rfl) rfl
    (fun f fn hf hfn => by
      obtain rfl : f = 6 := Option.some.inj ((show Tryd.prog.funcNamed "loop.example/stemma/laws.FnExactOpOk" = some 6 by kernel_rfl).symm.trans hf) |>.symm
      obtain rfl : fn = Tryd.f6 := (Option.some.inj (Tryd.func6.symm.trans hfn)).symm
      exact ⟨by kernel_rfl, fun j t ht => by
        rw [Tryd.params6] at ht
        have hm : t ∈ [41] := by simpa using Array.mem_of_getElem? ht
        have hall : ([41].all fun u => !Tryd.prog.wantsStandIn u) = true := by kernel_rfl
        exact (show Tryd.prog.wantsStandIn t = false by simpa using List.all_eq_true.1 hall t hm)⟩)
    (by kernel_rfl)
end Go.Proofs.YtkbnkcdaiahoeaaDoor
