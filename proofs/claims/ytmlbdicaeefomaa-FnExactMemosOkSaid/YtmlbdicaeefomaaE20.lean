/- the place of a memo. No condition. -/
import Derived.Test.YtmlbdicaeefomaaE19
namespace Go.Proofs.Ytmlbdicaeefomaa
open Go Go.RowKit
set_option maxRecDepth 100000
set_option linter.unusedSimpArgs false
set_option linter.unusedVariables false
attribute [local go_sem] List.size_toArray Int.toNat_zero Nat.sub_zero size_mk top_val eq_self datL X.dat u8min u8max i64min i64max stepT gdO aop ev lit litOk putF fzX_false putO upd app List.contains_nil List.elem_nil aBin aInt aStr aBool aLen lenTy aBuiltin aLoad aTake aTakeX aStore splice aSlice aBd look_cons look_nil lookC_cons lookC_nil by_s by_C start_s start_C X.cells X.cell List.all_cons List.all_nil Bool.and_self Bool.not_true Bool.not_false false_implies true_implies forall_const and_true true_and and_self implies_true not_false_eq_true Nat.zero_add Nat.add_zero List.getD_cons_zero List.getD_cons_succ List.map_cons List.map_nil Option.bind_some Option.map_some Option.map_none List.getElem?_cons_zero List.getElem?_cons_succ List.length_cons List.length_nil List.drop_zero List.drop_succ_cons List.take_succ_cons List.take_zero List.cons_append List.nil_append List.append_nil D.of List.length_map all_get_map Option.isSome_some and_false false_and Nat.lt_add_one Nat.zero_lt_succ decide_true decide_false
section
attribute [local go_sem] tsz9 tsz22 tsz34 tfld34 tel22 tel32 toNat_cast und9 St.frzB X.frzB X.frzBL Cap.frzB List.toList_toArray List.drop_zero
theorem memoPlace_spec (ms : List Mm) (old one two : List ByteArray) : Fun Try.prog 40 [.d (.of mX ms), .d (strs old), .d (strs one), .d (strs two)] (.d (.int .i64 (idxF (sameB old one two) ms))) := by
  refine Fun.of ?_ rfl rfl
  refine Spec.of (fn := Try.f40) Try.func40 rfl (by kernel_rfl) (rs := [.tmp 8]) rfl 1 (by simp [Try.f40]) rfl (by simp) ?_
  intro hreal
  rintro ⟨P, T, L0, w0, ι0, C0, U0⟩ hP hT hU
  subst hP hT
  refine st ?_
  all_goals first
  | fail_if_success with_reducible refine atR 0 ?_
  | (
    refine rg 0 [] [some 5, some 6, some 7, some 8] 4 ?_
    all_goals iterate 4 refine qP ?_
    all_goals refine qE ?_)
  refine AW.view (Vw.frzB 1 (ty := 22) [strs old] (cl)) ?_
  refine AW.view (Vw.frzB 2 (ty := 22) [strs one] (cl)) ?_
  refine AW.view (Vw.frzB 3 (ty := 22) [strs two] (cl)) ?_
  all_goals first
  | fail_if_success with_reducible refine atR 1 ?_
  | (
    refine rg 1 [] [some 9, some 10, some 11, some 8] 4 ?_
    all_goals iterate 2 refine qP ?_
    all_goals (
      refine qL_cons ?_
      intro R hR
      refine sm ?_
      refine call_fun (IndexFuncM_spec ms 71 [.ptr [strs old], .ptr [strs one], .ptr [strs two]] (sameB old one two) (fun _ => rfl) (fun _ _ => ⟨.inl rfl, .inl rfl, .inl rfl, trivial⟩) (memoPlace1_spec old one two)) [] ?_ (.inl rfl) ?_
      · exact ⟨.inl rfl, ⟨.inl rfl, trivial⟩⟩
      refine sm ?_
      all_goals (refine hR _ ?_; clear hR R))
    all_goals refine qP ?_
    all_goals refine qE ?_)
  all_goals first
  | fail_if_success with_reducible refine ret_fun (t := 8) ?_ ?_
  | (
    refine ret_fun (t := 8) ?_ (fun _ => rfl)
    first
    | exact cl
    | (
      try refine sm ?_
      all_goals (
       rfl)))

end
end Go.Proofs.Ytmlbdicaeefomaa
