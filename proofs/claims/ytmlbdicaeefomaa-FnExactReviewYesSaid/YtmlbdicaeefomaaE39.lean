/- FnExactReviewYes returns true for every input. No condition. -/
import Derived.Test.YtmlbdicaeefomaaE38
import Derived.Test.YtmlbdicaeefomaaAwX
import Derived.Test.YtmlbdicaeefomaaRows
import Derived.ProofKit
import Derived.SizedLaws
import Derived.Lib.SmallJoins
namespace Go.Proofs.Ytmlbdicaeefomaa
open Go.ChangeShapes Go.WideShapes Go.ChangeAt Go.RowKit
set_option maxRecDepth 100000
set_option linter.unusedVariables false
theorem own : ownKnob Try.prog.godebug = none := by kernel_rfl
theorem laidOut : laidOutB Try.prog = true := by kernel_rfl
theorem u4 : Try.prog.underlying 4 = some .bool := by kernel_rfl
theorem has_strs {d : D} (h : Has (.sl [.str]) d) : ∃ ss, d = .of sS ss := h.of (f := sS) fun e he => by
  obtain ⟨d, ds, rfl, h1, h2⟩ := he.c
  obtain ⟨s, rfl⟩ := h1.s
  obtain rfl := h2.n
  exact ⟨s, rfl⟩
theorem law7 (v : Rv) (who : ByteArray) (hw : who.size ≤ reachBytes) (hb : v.br.size ≤ reachBytes) : Fun Try.prog 7 [.ag [.d (.str v.br), .d (.str v.into), .d (.str v.by_), .d (.of sS v.yes)], .d (.str who)] (.d (.bool true)) := by
  have hr : reachBytes = 140737488351232 := rfl
  by_cases h : who.size ≤ 1000000
  · cases hv : rvB v with
    | true => exact law7_ok v who hv h
    | false => exact law7_bad v who hv h
  · exact law7_big v who (by omega) (by omega) (by omega)
theorem has_law (xs : List X) (h : HasXs [(true, [.str, .str, .str, .sl [.str]]), (false, [.str])] xs) : Fun Try.prog 7 xs (.d (.bool true)) := by
  obtain ⟨x, xs, rfl, h1, h⟩ := h.c
  obtain ⟨y, xs, rfl, h2, h⟩ := h.c
  obtain rfl := h.n
  obtain ⟨ds, rfl, h4⟩ := h1.a
  obtain ⟨d, rfl, h3⟩ := h2.s
  obtain ⟨who, rfl, hw⟩ := h3.sz
  obtain ⟨d0, e, rfl, k0, he⟩ := h4.c
  obtain ⟨d1, e, rfl, k1, he⟩ := he.c
  obtain ⟨d2, e, rfl, k2, he⟩ := he.c
  obtain ⟨d3, e, rfl, k3, he⟩ := he.c
  obtain rfl := he.n
  obtain ⟨s0, rfl, hb⟩ := k0.sz
  obtain ⟨s1, rfl⟩ := k1.s
  obtain ⟨s2, rfl⟩ := k2.s
  obtain ⟨s3, rfl⟩ := has_strs k3
  exact law7 ⟨s0, s1, s2, s3⟩ who hw hb

theorem exactReviewYes_lifted (os : Os) (started : os.Started) (H : Type) (enc : TypeId × Value → H) :
    ReturnsInHanded {} Try.checked os 7 .any (Rows.fnExactReviewYesSpec.pre6 enc Try.prog Try.f7 Rows.fnExactReviewYesRow.domain false) (Rows.fnExactReviewYesSpec.post enc Try.prog Try.f7 false true false false) := by
  refine returnsInHanded_of_change_sized (C := Try.checked) own started (by kernel_rfl) Try.func7
    (ChangeSpec.witness6 (enc := enc) (C := Try.checked) false ⟨#[], #[.agg #[.string ByteArray.empty, .string ByteArray.empty, .string ByteArray.empty, .slice none 0 0], .string ByteArray.empty], []⟩ 8 (by kernel_rfl) (by kernel_rfl) (by kernel_rfl) (by kernel_rfl)) ?_
  intro W base args ds gs before hval0 hW hcnd hwt _
  have hW' := hW
  have hlt := hW.lt
  obtain ⟨p, q, hA, hV, rfl, hfz, hnd⟩ := hW
  obtain ⟨rfl, rfl⟩ := trodVars_none hV
  simp only [List.append_nil] at hW' hlt
  have hwt' : ∀ n ∈ DataW.weightsEach Try.prog Try.f7.params.toList ds, n ≤ reachBytes := by
    have e : DataSpec.varTypes Try.checked.prog Rows.fnExactReviewYesSpec.plain = [] := by kernel_rfl
    rw [e, List.append_nil, List.append_nil] at hwt
    intro n hn
    exact of_decide_eq_true (List.all_eq_true.1 hwt n hn)
  have hval : ∀ (j : Nat) t v, Try.f7.params.toList[j]? = some t → args.toList[j]? = some v → Value.okWide Try.prog W .any base t v := fun j t v h1 h2 => hval0 j t v (by simpa using h1) (by simpa using h2)
  refine (law_call laidOut (f := 7) (ts := Try.f7.params.toList) (az := [(true, [.str, .str, .str, .sl [.str]]), (false, [.str])]) (by kernel_rfl) (of_decide_eq_true (by kernel_rfl)) has_law hval hwt' hA hlt).mono fun e W' ⟨he, hb, hback⟩ => ?_
  subst he
  obtain ⟨v0, v1, d0, d1, p0, p1, rfl, rfl, rfl, h0, h1⟩ := trodAll_two hA
  exact ⟨_, rfl, ⟨_, _, _, [], _, [], hW', trodAll_mk1 (shut_bool u4 true), hback _ (fun x hx => by simpa using hlt x hx), rfl, hb.frame _, fun h => by cases h⟩⟩

theorem exactReviewYes_holds : Rows.FnExactReviewYesSaid :=
  OpenClaim.holds_of_wide 7 Try.f7 rfl rfl rfl rfl rfl rfl rfl ⟨rfl, rfl, rfl, rfl, rfl⟩ rfl rfl rfl rfl rfl (by kernel_rfl) Try.func7 (by kernel_rfl)
    (of_decide_eq_true (by kernel_rfl)) (by unfold Func.isWrapper; first | (rw [if_pos (by decide +kernel)]; kernel_rfl) | (rw [if_neg (by decide +kernel)]; exact ⟨rfl, rfl⟩))
    (fun os started H enc _ => exactReviewYes_lifted os started H enc)
end Go.Proofs.Ytmlbdicaeefomaa
