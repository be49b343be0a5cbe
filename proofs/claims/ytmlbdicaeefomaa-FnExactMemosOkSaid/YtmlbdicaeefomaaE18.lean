/- two conflicts are the same, of both. No condition. -/
import Derived.Test.YtmlbdicaeefomaaE17
namespace Go.Proofs.Ytmlbdicaeefomaa
open Go Go.RowKit
set_option maxRecDepth 100000
set_option linter.unusedSimpArgs false
set_option linter.unusedVariables false
theorem tsz34 : tsz Try.prog 34 = some (true, 4) := by kernel_rfl
theorem tfld34 : tfld Try.prog 34 = some [(0, 22), (1, 22), (2, 22), (3, 22)] := by kernel_rfl
structure Mm where
  old : List ByteArray
  one : List ByteArray
  two : List ByteArray
  done : List ByteArray
def sameB (old one two : List ByteArray) (m : Mm) : Bool := decide (old = m.old) && ((decide (one = m.one) && decide (two = m.two)) || (decide (one = m.two) && decide (two = m.one)))
attribute [local go_sem] List.size_toArray Int.toNat_zero Nat.sub_zero size_mk top_val eq_self datL X.dat u8min u8max i64min i64max stepT gdO aop ev lit litOk putF fzX_false putO upd app List.contains_nil List.elem_nil aBin aInt aStr aBool aLen lenTy aBuiltin aLoad aTake aTakeX aStore splice aSlice aBd look_cons look_nil lookC_cons lookC_nil by_s by_C start_s start_C X.cells X.cell List.all_cons List.all_nil Bool.and_self Bool.not_true Bool.not_false false_implies true_implies forall_const and_true true_and and_self implies_true not_false_eq_true Nat.zero_add Nat.add_zero List.getD_cons_zero List.getD_cons_succ List.map_cons List.map_nil Option.bind_some Option.map_some Option.map_none List.getElem?_cons_zero List.getElem?_cons_succ List.length_cons List.length_nil List.drop_zero List.drop_succ_cons List.take_succ_cons List.take_zero List.cons_append List.nil_append List.append_nil D.of List.length_map all_get_map Option.isSome_some and_false false_and Nat.lt_add_one Nat.zero_lt_succ decide_true decide_false
section
attribute [local go_sem] tsz9 tsz22 tsz34 tfld34 tel22 toNat_cast und9
theorem areTexts_spec (a b c : List ByteArray) : Fun Try.prog 47 [.d (strs a), .d (strs b), .d (strs c)] (.d (.bool (txB a && txB b && txB c))) := by
  refine Fun.of ?_ rfl rfl
  refine Spec.of (fn := Try.f47) Try.func47 rfl (by kernel_rfl) (rs := [.tmp 6]) rfl 1 (by simp [Try.f47]) rfl (by simp) ?_
  intro hreal
  rintro ⟨P, T, L0, w0, ι0, C0, U0⟩ hP hT hU
  subst hP hT
  refine st ?_
  all_goals first
  | fail_if_success with_reducible refine atR 0 ?_
  | (
    refine rg 0 [] [some 6] 1 ?_
    all_goals refine qP ?_
    all_goals refine qE ?_)
  all_goals first
  | fail_if_success with_reducible refine atR 1 ?_
  | (
    refine rg 1 [] [some 7, some 8, some 9, some 10, some 11, some 12, some 13, some 14, some 15, some 16, some 6] 11 ?_
    all_goals refine qP ?_
    all_goals (
      refine qL_cons ?_
      intro R hR
      refine sm ?_
      refine call_fun (TextOk_spec a) [] ?_ (.inl rfl) ?_
      · exact ⟨.inl rfl, trivial⟩
      refine sm ?_
      all_goals (refine hR _ ?_; clear hR R))
    all_goals refine qP ?_
    all_goals first | refine qU 9 ?_ | (refine qS 9 ?_ ?_ <;> intro hg1_2 <;> try (cases hg1_2; done))
    all_goals refine qP ?_
    all_goals first
    | (
      refine qL_cons ?_
      intro R hR
      refine sm ?_
      refine call_fun (TextOk_spec b) [] ?_ (.inl rfl) ?_
      · exact ⟨.inl rfl, trivial⟩
      refine sm ?_
      refine hR _ ?_
      clear hR R)
    | refine qP ?_
    all_goals iterate 2 refine qP ?_
    all_goals first | refine qU 13 ?_ | (refine qS 13 ?_ ?_ <;> intro hg1_6 <;> try (cases hg1_6; done))
    all_goals refine qP ?_
    all_goals first
    | (
      refine qL_cons ?_
      intro R hR
      refine sm ?_
      refine call_fun (TextOk_spec c) [] ?_ (.inl rfl) ?_
      · exact ⟨.inl rfl, trivial⟩
      refine sm ?_
      refine hR _ ?_
      clear hR R)
    | refine qP ?_
    all_goals iterate 2 refine qP ?_
    all_goals refine qE ?_)
  all_goals first
  | fail_if_success with_reducible refine ret_fun (t := 6) ?_ ?_
  | (
    refine ret_fun (t := 6) ?_ (fun _ => rfl)
    first
    | exact cl
    | (
      try refine sm ?_
      all_goals (
       (congr 2; simp_all))))

end
section
attribute [local go_sem] tsz9 tsz22 tsz34 tfld34 tel22 toNat_cast und9
theorem sameConflict_spec (old one two : List ByteArray) (m : Mm) : Fun Try.prog 72 [.d (strs old), .d (strs one), .d (strs two), .ag [.d (strs m.old), .d (strs m.one), .d (strs m.two), .d (strs m.done)]] (.d (.bool (sameB old one two m))) := by
  refine Fun.of ?_ rfl rfl
  refine Spec.of (fn := Try.f72) Try.func72 rfl (by kernel_rfl) (rs := [.tmp 8]) rfl 1 (by simp [Try.f72]) rfl (by simp) ?_
  intro hreal
  rintro ⟨P, T, L0, w0, ι0, C0, U0⟩ hP hT hU
  subst hP hT
  refine st ?_
  all_goals first
  | fail_if_success with_reducible refine atR 0 ?_
  | (
    refine rg 0 [] [some 7, some 8] 2 ?_
    all_goals iterate 2 refine qP ?_
    all_goals refine qE ?_)
  all_goals first
  | fail_if_success with_reducible refine atR 1 ?_
  | (
    refine rg 1 [] [some 9, some 10, some 11, some 12, some 13] 5 ?_
    all_goals iterate 3 refine qP ?_
    all_goals (
      refine qL_cons ?_
      intro R hR
      refine sm ?_
      refine call_fun (EqualS_spec old m.old) [] ?_ (.inl rfl) ?_
      · exact ⟨.inl rfl, ⟨.inl rfl, trivial⟩⟩
      refine sm ?_
      all_goals (refine hR _ ?_; clear hR R))
    all_goals refine qP ?_
    all_goals refine qE ?_)
  all_goals first
  | fail_if_success with_reducible refine atC 13 ?_
  | (
    refine cn 13 ?_ ?_ <;> intro hc13 <;> try (cases hc13; done)
    all_goals refine st ?_)
  all_goals first
  | fail_if_success with_reducible refine atR 2 ?_
  | (
    refine rg 2 [] [some 8] 1 ?_
    all_goals refine qP ?_
    all_goals refine qE ?_)
  all_goals first
  | fail_if_success with_reducible refine atR 3 ?_
  | (
    refine rg 3 [] [some 14, some 15, some 16, some 17, some 18, some 19, some 20, some 21, some 22, some 23, some 24, some 25, some 26, some 27, some 28, some 29, some 30, some 31, some 32, some 33, some 34, some 35, some 8] 23 ?_
    all_goals iterate 3 refine qP ?_
    all_goals (
      refine qL_cons ?_
      intro R hR
      refine sm ?_
      refine call_fun (EqualS_spec one m.one) [] ?_ (.inl rfl) ?_
      · exact ⟨.inl rfl, ⟨.inl rfl, trivial⟩⟩
      refine sm ?_
      all_goals (refine hR _ ?_; clear hR R))
    all_goals refine qP ?_
    all_goals first | refine qU 18 ?_ | (refine qS 18 ?_ ?_ <;> intro hg3_4 <;> try (cases hg3_4; done))
    all_goals iterate 3 refine qP ?_
    all_goals first
    | (
      refine qL_cons ?_
      intro R hR
      refine sm ?_
      refine call_fun (EqualS_spec two m.two) [] ?_ (.inl rfl) ?_
      · exact ⟨.inl rfl, ⟨.inl rfl, trivial⟩⟩
      refine sm ?_
      refine hR _ ?_
      clear hR R)
    | refine qP ?_
    all_goals iterate 2 refine qP ?_
    all_goals first | refine qU 24 ?_ | (refine qS 24 ?_ ?_ <;> intro hg3_10 <;> try (cases hg3_10; done))
    all_goals iterate 3 refine qP ?_
    all_goals first
    | (
      refine qL_cons ?_
      intro R hR
      refine sm ?_
      refine call_fun (EqualS_spec one m.two) [] ?_ (.inl rfl) ?_
      · exact ⟨.inl rfl, ⟨.inl rfl, trivial⟩⟩
      refine sm ?_
      refine hR _ ?_
      clear hR R)
    | refine qP ?_
    all_goals refine qP ?_
    all_goals first | refine qU 29 ?_ | (refine qS 29 ?_ ?_ <;> intro hg3_15 <;> try (cases hg3_15; done))
    all_goals iterate 3 refine qP ?_
    all_goals first
    | (
      refine qL_cons ?_
      intro R hR
      refine sm ?_
      refine call_fun (EqualS_spec two m.one) [] ?_ (.inl rfl) ?_
      · exact ⟨.inl rfl, ⟨.inl rfl, trivial⟩⟩
      refine sm ?_
      refine hR _ ?_
      clear hR R)
    | refine qP ?_
    all_goals iterate 3 refine qP ?_
    all_goals refine qE ?_)
  all_goals first
  | fail_if_success with_reducible refine ret_fun (t := 8) ?_ ?_
  | (
    refine ret_fun (t := 8) ?_ (fun _ => rfl)
    first
    | exact cl
    | (
      try refine sm ?_
      all_goals (
       (congr 2; simp_all [sameB]; done))))

theorem sameB_eq (old one two : List ByteArray) (m : Mm) : sameB old one two m = (decide (m.old = old) && ((decide (m.one = one) && decide (m.two = two)) || (decide (m.one = two) && decide (m.two = one)))) := by
  unfold sameB
  rw [show decide (old = m.old) = decide (m.old = old) from by simp [eq_comm], show decide (one = m.one) = decide (m.one = one) from by simp [eq_comm], show decide (two = m.two) = decide (m.two = two) from by simp [eq_comm],
    show decide (one = m.two) = decide (m.two = one) from by simp [eq_comm], show decide (two = m.one) = decide (m.one = two) from by simp [eq_comm], Bool.and_comm (decide (m.two = one))]
end
section
attribute [local go_sem] tsz9 tsz22 tsz34 tfld34 tel22 toNat_cast und9
theorem l18Same_spec (m : Mm) (old one two : List ByteArray) : Fun Try.prog 43 [.ag [.d (strs m.old), .d (strs m.one), .d (strs m.two), .d (strs m.done)], .d (strs old), .d (strs one), .d (strs two)] (.d (.bool (sameB old one two m))) := by
  refine Fun.of ?_ rfl rfl
  refine Spec.of (fn := Try.f43) Try.func43 rfl (by kernel_rfl) (rs := [.tmp 8]) rfl 1 (by simp [Try.f43]) rfl (by simp) ?_
  intro hreal
  rintro ⟨P, T, L0, w0, ι0, C0, U0⟩ hP hT hU
  subst hP hT
  refine st ?_
  all_goals first
  | fail_if_success with_reducible refine atR 0 ?_
  | (
    refine rg 0 [] [some 4, some 8] 2 ?_
    all_goals iterate 2 refine qP ?_
    all_goals refine qE ?_)
  all_goals first
  | fail_if_success with_reducible refine atR 1 ?_
  | (
    refine rg 1 [] [some 9, some 10, some 11, some 12, some 13, some 14, some 15, some 16, some 17, some 18, some 19, some 20, some 21, some 22, some 23, some 24, some 25, some 26, some 27, some 28, some 29, some 30, some 31, some 32, some 33, some 34, some 35, some 36, some 8] 29 ?_
    all_goals iterate 3 refine qP ?_
    all_goals (
      refine qL_cons ?_
      intro R hR
      refine sm ?_
      refine call_fun (l1Same_spec m.old old) [] ?_ (.inl rfl) ?_
      · exact ⟨.inl rfl, ⟨.inl rfl, trivial⟩⟩
      refine sm ?_
      all_goals (refine hR _ ?_; clear hR R))
    all_goals refine qP ?_
    all_goals first | refine qU 13 ?_ | (refine qS 13 ?_ ?_ <;> intro hg1_4 <;> try (cases hg1_4; done))
    all_goals iterate 3 refine qP ?_
    all_goals first
    | (
      refine qL_cons ?_
      intro R hR
      refine sm ?_
      refine call_fun (l1Same_spec m.one one) [] ?_ (.inl rfl) ?_
      · exact ⟨.inl rfl, ⟨.inl rfl, trivial⟩⟩
      refine sm ?_
      refine hR _ ?_
      clear hR R)
    | refine qP ?_
    all_goals refine qP ?_
    all_goals first | refine qU 18 ?_ | (refine qS 18 ?_ ?_ <;> intro hg1_9 <;> try (cases hg1_9; done))
    all_goals iterate 3 refine qP ?_
    all_goals first
    | (
      refine qL_cons ?_
      intro R hR
      refine sm ?_
      refine call_fun (l1Same_spec m.two two) [] ?_ (.inl rfl) ?_
      · exact ⟨.inl rfl, ⟨.inl rfl, trivial⟩⟩
      refine sm ?_
      refine hR _ ?_
      clear hR R)
    | refine qP ?_
    all_goals iterate 2 refine qP ?_
    all_goals first | refine qU 24 ?_ | (refine qS 24 ?_ ?_ <;> intro hg1_15 <;> try (cases hg1_15; done))
    all_goals iterate 3 refine qP ?_
    all_goals first
    | (
      refine qL_cons ?_
      intro R hR
      refine sm ?_
      refine call_fun (l1Same_spec m.one two) [] ?_ (.inl rfl) ?_
      · exact ⟨.inl rfl, ⟨.inl rfl, trivial⟩⟩
      refine sm ?_
      refine hR _ ?_
      clear hR R)
    | refine qP ?_
    all_goals refine qP ?_
    all_goals first | refine qU 29 ?_ | (refine qS 29 ?_ ?_ <;> intro hg1_20 <;> try (cases hg1_20; done))
    all_goals iterate 3 refine qP ?_
    all_goals first
    | (
      refine qL_cons ?_
      intro R hR
      refine sm ?_
      refine call_fun (l1Same_spec m.two one) [] ?_ (.inl rfl) ?_
      · exact ⟨.inl rfl, ⟨.inl rfl, trivial⟩⟩
      refine sm ?_
      refine hR _ ?_
      clear hR R)
    | refine qP ?_
    all_goals iterate 4 refine qP ?_
    all_goals refine qE ?_)
  all_goals first
  | fail_if_success with_reducible refine ret_fun (t := 8) ?_ ?_
  | (
    refine ret_fun (t := 8) ?_ (fun _ => rfl)
    first
    | exact cl
    | (
      try refine sm ?_
      all_goals (
       (congr 2; rw [sameB_eq]; simp_all; done))))

end
end Go.Proofs.Ytmlbdicaeefomaa
