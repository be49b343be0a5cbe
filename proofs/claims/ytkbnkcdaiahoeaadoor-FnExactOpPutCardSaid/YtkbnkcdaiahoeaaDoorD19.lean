/- FnExactOpPut returns true for every input, as a tied card. No condition. -/
import Derived.Test.YtkbnkcdaiahoeaaDoorD18
import Derived.Test.YtkbnkcdaiahoeaaDoorAxK
import Derived.Test.YtkbnkcdaiahoeaaDoorRows
import Derived.Test.YtkbnkcdaiahoeaaDoorTie
import Derived.Test.YtkbnkcdaiahoeaaDoorCards
import Derived.ProofKit
import Derived.SizedLaws
import Derived.Lib.SmallJoins
import Derived.Lay
import Derived.LaidLaws
import Derived.SevenTiedAt
import Derived.OpenVars
namespace Go.Proofs.YtkbnkcdaiahoeaaDoor
open Go.ChangeShapes Go.WideShapes Go.ChangeAt Go.RowKit
set_option maxRecDepth 100000
set_option linter.unusedVariables false
theorem own : ownKnob Tryd.prog.godebug = none := by kernel_rfl
theorem laidOut : laidOutB Tryd.prog = true := by kernel_rfl
theorem u4 : Tryd.prog.underlying 4 = some .bool := by kernel_rfl
theorem has_strs {d : D} (h : Has (.sl [.str]) d) : ∃ ss, d = .of sS ss := h.of (f := sS) fun e he => by
  obtain ⟨d, ds, rfl, h1, h2⟩ := he.c
  obtain ⟨s, rfl⟩ := h1.s
  obtain rfl := h2.n
  exact ⟨s, rfl⟩
theorem has_law (xs : List X) (h : HasXs [(true, [.int .i64, .str, .str, .str, .str, .int .i64, .sl [.str]])] xs) : Fun Tryd.prog 7 xs (.d (.bool true)) := by
  obtain ⟨x, xs, rfl, h1, h⟩ := h.c
  obtain rfl := h.n
  obtain ⟨ds, rfl, h4⟩ := h1.a
  obtain ⟨d0, e, rfl, k0, he⟩ := h4.c
  obtain ⟨d1, e, rfl, k1, he⟩ := he.c
  obtain ⟨d2, e, rfl, k2, he⟩ := he.c
  obtain ⟨d3, e, rfl, k3, he⟩ := he.c
  obtain ⟨d4, e, rfl, k4, he⟩ := he.c
  obtain ⟨d5, e, rfl, k5, he⟩ := he.c
  obtain ⟨d6, e, rfl, k6, he⟩ := he.c
  obtain rfl := he.n
  obtain ⟨n0, rfl, -⟩ := k0.i
  obtain ⟨s1, rfl⟩ := k1.s
  obtain ⟨s2, rfl⟩ := k2.s
  obtain ⟨s3, rfl⟩ := k3.s
  obtain ⟨s4, rfl⟩ := k4.s
  obtain ⟨n5, rfl, -⟩ := k5.i
  obtain ⟨s6, rfl⟩ := has_strs k6
  exact opPut_law ⟨n0, s1, s2, s3, s4, n5, s6⟩
theorem exactOpPut_lifted (os : Os) (started : os.Started) (H : Type) (enc : TypeId × Value → H) :
    ReturnsInHanded {} Tryd.checked os 7 .any (fun w args => (Rows.fnExactOpPutSpec.pre enc Tryd.prog Tryd.f7 Rows.fnExactOpPutRow.domain false w args ∧ laidMetH Tryd.prog Rows.fnExactOpPutRow.laid w) ∧ sizedMet enc Tryd.prog Tryd.f7 (OpenSpec.ofChange Rows.fnExactOpPutSpec) false w args)
      (Rows.fnExactOpPutSpec.post enc Tryd.prog Tryd.f7 false true false false) := by
  refine returnsInHanded_of_change_and (C := Tryd.checked) (X := fun w _ => laidMetH Tryd.prog Rows.fnExactOpPutRow.laid w) (fun _ _ _ hh h => h.of_heap hh) own started (by kernel_rfl) Tryd.func7
    (ChangeSpec.witness_shaped (enc := enc) (C := Tryd.checked) (os := os) (X := fun w _ => laidMetH Tryd.prog Rows.fnExactOpPutRow.laid w) false (World.laidAll Tryd.prog os Rows.fnExactOpPutRow.laid) #[.agg #[.int .i64 0, .string ByteArray.empty, .string ByteArray.empty, .string ByteArray.empty, .string ByteArray.empty, .int .i64 0, .slice none 0 0]] 8 (World.laidAll_os _ _ _)
      (World.shaped_of_ZipB (by kernel_rfl) (by kernel_rfl)) (by kernel_rfl) (by kernel_rfl) (by kernel_rfl)
      (by rw [MakeChecks.laidMetH_plain _ _ _ (by kernel_rfl)]; exact laidMet_laidAll _ (by kernel_rfl) (by kernel_rfl))) ?_
  intro W base args ds gs before hval0 hW hcnd hwt hL _
  rw [MakeChecks.laidMetH_plain _ _ _ (by kernel_rfl)] at hL
  have hG : Glob noLim W := by
    have hv := Lib.laidMet.reads hL (n := "loop.example/stemma/impl.opWords") (d := .agg ([(⟨#[115, 101, 116]⟩ : ByteArray), (⟨#[100, 114, 111, 112]⟩ : ByteArray), (⟨#[109, 111, 118, 101]⟩ : ByteArray), (⟨#[102, 111, 114, 107]⟩ : ByteArray), (⟨#[117, 110, 105, 116, 101]⟩ : ByteArray), (⟨#[112, 105, 99, 107]⟩ : ByteArray), (⟨#[98, 97, 99, 107]⟩ : ByteArray)].map fun s => .lit (.string s.data.toList))) (.tail _ (.tail _ (.tail _ (.tail _ (.head _)))))
    have hc := vals_of_reads [(⟨#[115, 101, 116]⟩ : ByteArray), (⟨#[100, 114, 111, 112]⟩ : ByteArray), (⟨#[109, 111, 118, 101]⟩ : ByteArray), (⟨#[102, 111, 114, 107]⟩ : ByteArray), (⟨#[117, 110, 105, 116, 101]⟩ : ByteArray), (⟨#[112, 105, 99, 107]⟩ : ByteArray), (⟨#[98, 97, 99, 107]⟩ : ByteArray)] hv (g := 0) (t := 68) (e := 9) (len := 7) (by kernel_rfl) (by kernel_rfl) (by kernel_rfl) (by kernel_rfl) (by kernel_rfl) rfl
    have hz := glob_strs (W := W) (g := 0) [(⟨#[115, 101, 116]⟩ : ByteArray), (⟨#[100, 114, 111, 112]⟩ : ByteArray), (⟨#[109, 111, 118, 101]⟩ : ByteArray), (⟨#[102, 111, 114, 107]⟩ : ByteArray), (⟨#[117, 110, 105, 116, 101]⟩ : ByteArray), (⟨#[112, 105, 99, 107]⟩ : ByteArray), (⟨#[98, 97, 99, 107]⟩ : ByteArray)] hc (by decide)
    intro g cs h
    match g, h with
    | 0, h =>
      cases h
      exact hz
  have hW' := hW
  have hlt := hW.lt
  obtain ⟨p, q, hA, hV, rfl, hfz, hnd⟩ := hW
  obtain ⟨g1, rfl⟩ : ∃ g1, gs = [g1] := by
    match gs, hV with
    | [g1], _ => exact ⟨g1, rfl⟩
    | [], h => exact h.elim
    | _ :: _ :: _, h => obtain ⟨_, _, _, _, _, _, _, _, _, _, h, _⟩ := h; exact h.elim
  obtain ⟨v0, d0, rfl, rfl, h0⟩ := trodAll_one hA
  have e : Tryd.f7.params.toList = [41] := by kernel_rfl
  have hwt' : ∀ n ∈ DataW.weightsEach Tryd.prog Tryd.f7.params.toList [d0], n ≤ reachBytes := by
    rw [e] at hwt
    intro n hn
    rw [e] at hn
    refine of_decide_eq_true (List.all_eq_true.1 hwt n ?_)
    simp only [List.cons_append, List.nil_append, DataW.weightsEach, List.append_nil, List.mem_append] at hn ⊢
    exact .inl hn
  have hval : ∀ (j : Nat) t v, Tryd.f7.params.toList[j]? = some t → (#[v0] : Array Value).toList[j]? = some v → Value.okWide Tryd.prog W .any base t v := fun j t v h1 h2 => hval0 j t v (by simpa using h1) (by simpa using h2)
  refine (law_call laidOut (f := 7) (ts := Tryd.f7.params.toList) (az := [(true, [.int .i64, .str, .str, .str, .str, .int .i64, .sl [.str]])]) (by kernel_rfl) (of_decide_eq_true (by kernel_rfl)) has_law hval hwt' hA (fun x hx => hlt x (by simp [hx])) hG).mono fun e W' ⟨he, hb, hback⟩ => ?_
  subst he
  exact ⟨_, rfl, ⟨_, _, _, [], _, _, hW', trodAll_mk1 (shut_bool u4 true), hback _ (fun x hx => by simpa using hlt x (by simp [hx])), hb.trodVars laidOut (by kernel_rfl) hV, hb.frame _, fun h => by cases h⟩⟩

theorem exactOpPut_holds : Rows.FnExactOpPutSaid :=
  OpenClaim.holds_of_wide 7 Tryd.f7 rfl rfl rfl rfl rfl rfl rfl ⟨rfl, rfl, rfl, rfl, rfl⟩ rfl rfl rfl rfl rfl (by kernel_rfl) Tryd.func7 (by kernel_rfl)
    (of_decide_eq_true (by kernel_rfl)) (by unfold Func.isWrapper; first | (rw [if_pos (by decide +kernel)]; kernel_rfl) | (rw [if_neg (by decide +kernel)]; exact ⟨rfl, rfl⟩))
    (fun os started H enc _ => exactOpPut_lifted os started H enc)
theorem exactOpPut_card : Rows.FnExactOpPutCardSaid :=
  Claim7.holds_tied_plain_at .later [] [.data, .data, .data, .data, .widerDeep, .pinned] true (true, "5a59ff29b8e9fb3f255beaf172398f9f25cee75c4092136d6db14cb5173aa2db") true exactOpPut_holds (fun _ h => by cases h) (by kernel_rfl) (fun _ h => by cases h) fnExactOpPut_row_tie rfl ⟨rfl, rfl⟩ (by kernel_rfl) rfl
    (fun f fn hf hfn => by
      obtain rfl : f = 7 := Option.some.inj ((show Tryd.prog.funcNamed "loop.example/stemma/laws.FnExactOpPut" = some 7 by kernel_rfl).symm.trans hf) |>.symm
      obtain rfl : fn = Tryd.f7 := (Option.some.inj (Tryd.func7.symm.trans hfn)).symm
      exact ⟨by kernel_rfl, fun j t ht => by
        rw [Tryd.params7] at ht
        have hm : t ∈ [41] := by simpa using Array.mem_of_getElem? ht
        have hall : ([41].all fun u => !Tryd.prog.wantsStandIn u) = true := by kernel_rfl
        exact (show Tryd.prog.wantsStandIn t = false by simpa using List.all_eq_true.1 hall t hm)⟩)
    (by kernel_rfl)
end Go.Proofs.YtkbnkcdaiahoeaaDoor
