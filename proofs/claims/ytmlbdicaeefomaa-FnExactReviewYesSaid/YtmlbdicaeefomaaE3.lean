/- the bytes of a name. No condition. -/
import Derived.Test.YtmlbdicaeefomaaAwY
import Derived.Test.YtmlbdicaeefomaaProg
import Derived.KernelRfl
namespace Go.Proofs.Ytmlbdicaeefomaa
open Go Go.RowKit
set_option maxRecDepth 100000
set_option linter.unusedSimpArgs false
set_option linter.unusedVariables false
attribute [local go_sem] List.size_toArray Int.toNat_zero Nat.sub_zero size_mk top_val eq_self datL X.dat u8min u8max i64min i64max stepT gdO aop ev lit litOk putF fzX_false putO upd app List.contains_nil List.elem_nil aBin aInt aStr aBool aLen lenTy aBuiltin aLoad aTake aTakeX aStore splice aSlice aBd look_cons look_nil lookC_cons lookC_nil by_s by_C start_s start_C X.cells X.cell List.all_cons List.all_nil Bool.and_self Bool.not_true Bool.not_false false_implies true_implies forall_const and_true true_and and_self implies_true not_false_eq_true Nat.zero_add Nat.add_zero List.getD_cons_zero List.getD_cons_succ List.map_cons List.map_nil Option.bind_some Option.map_some Option.map_none List.getElem?_cons_zero List.getElem?_cons_succ List.length_cons List.length_nil List.drop_zero List.drop_succ_cons List.take_succ_cons List.take_zero List.cons_append List.nil_append List.append_nil D.of List.length_map all_get_map Option.isSome_some and_false false_and Nat.lt_add_one Nat.zero_lt_succ decide_true decide_false fzX litEs List.contains_cons List.elem_cons Bool.true_or Bool.or_true Bool.false_or Bool.or_false beq_self_eq_true
theorem und9 : Try.prog.underlying 9 = some .string := by kernel_rfl
theorem tsz9 : tsz Try.prog 9 = some (false, 1) := by kernel_rfl
theorem tel22 : telem Try.prog 22 = some (9, 1, 16) := by kernel_rfl
def withinB (a b c : Int) : Bool := decide (b ≤ a) && decide (a ≤ c)
def nbB (c : UInt8) : Bool := (decide (97 ≤ (c.toNat : Int)) && decide ((c.toNat : Int) ≤ 122)) || (decide (48 ≤ (c.toNat : Int)) && decide ((c.toNat : Int) ≤ 57))
section
theorem within_spec (a b c : Int) : Fun Try.prog 67 [.d (.int .i64 a), .d (.int .i64 b), .d (.int .i64 c)] (.d (.bool (withinB a b c))) := by
  refine Fun.of ?_ rfl rfl
  refine Spec.of (fn := Try.f67) Try.func67 rfl (by kernel_rfl) (rs := [.tmp 6]) rfl 1 (by simp [Try.f67]) rfl (by simp) ?_
  intro hreal
  rintro ⟨P, T, L0, w0, ι0, C0, U0⟩ hP hT hU
  subst hP hT
  refine st ?_
  all_goals first
  | fail_if_success with_reducible refine atR 0 ?_
  | (
    refine rg 0 [] [some 6] 1 ?_
    all_goals refine qP ?_
    all_goals refine qE ?_)
  all_goals first
  | fail_if_success with_reducible refine atR 1 ?_
  | (
    refine rg 1 [] [some 7, some 8, some 9, some 10, some 11, some 12, some 13, some 14, some 6] 9 ?_
    all_goals iterate 4 refine qP ?_
    all_goals first | refine qU 10 ?_ | (refine qS 10 ?_ ?_ <;> intro hg1_3 <;> try (cases hg1_3; done))
    all_goals iterate 5 refine qP ?_
    all_goals refine qE ?_)
  all_goals first
  | fail_if_success with_reducible refine ret_fun (t := 6) ?_ ?_
  | (
    refine ret_fun (t := 6) ?_ (fun _ => rfl)
    first
    | exact cl
    | (
      try refine sm ?_
      all_goals (
       simp [withinB, *] <;> omega)))

end
section
theorem isNameByte_spec (c : UInt8) : Fun Try.prog 66 [.d (.int .u8 c.toNat)] (.d (.bool (nbB c))) := by
  refine Fun.of ?_ rfl rfl
  refine Spec.of (fn := Try.f66) Try.func66 rfl (by kernel_rfl) (rs := [.tmp 2]) rfl 1 (by simp [Try.f66]) rfl (by simp) ?_
  intro hreal
  rintro ⟨P, T, L0, w0, ι0, C0, U0⟩ hP hT hU
  subst hP hT
  refine st ?_
  all_goals first
  | fail_if_success with_reducible refine atR 0 ?_
  | (
    refine rg 0 [] [some 2] 1 ?_
    all_goals refine qP ?_
    all_goals refine qE ?_)
  all_goals first
  | fail_if_success with_reducible refine atR 1 ?_
  | (
    refine rg 1 [] [some 3, some 4, some 5, some 6, some 7, some 8, some 9, some 10, some 11, some 12, some 13, some 14, some 15, some 16, some 2] 15 ?_
    all_goals iterate 3 refine qP ?_
    all_goals first | refine qU 5 ?_ | (refine qS 5 ?_ ?_ <;> intro hg1_2 <;> try (cases hg1_2; done))
    all_goals iterate 4 refine qP ?_
    all_goals first | refine qU 9 ?_ | (refine qS 9 ?_ ?_ <;> intro hg1_6 <;> try (cases hg1_6; done))
    all_goals iterate 3 refine qP ?_
    all_goals first | refine qU 12 ?_ | (refine qS 12 ?_ ?_ <;> intro hg1_9 <;> try (cases hg1_9; done))
    all_goals iterate 5 refine qP ?_
    all_goals refine qE ?_)
  all_goals first
  | fail_if_success with_reducible refine ret_fun (t := 2) ?_ ?_
  | (
    refine ret_fun (t := 2) ?_ (fun _ => rfl)
    first
    | exact cl
    | (
      try refine sm ?_
      all_goals (
       simp [nbB, *] <;> omega)))

end
end Go.Proofs.Ytmlbdicaeefomaa
