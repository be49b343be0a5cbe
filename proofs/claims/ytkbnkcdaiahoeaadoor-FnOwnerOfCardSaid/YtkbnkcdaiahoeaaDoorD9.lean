/- the law FnOwnerOf over data. No condition. -/
import Derived.Test.YtkbnkcdaiahoeaaDoorD8
import Derived.Test.YtkbnkcdaiahoeaaDoorAxF
namespace Go.Proofs.YtkbnkcdaiahoeaaDoor
open Go Go.RowKit
set_option maxRecDepth 100000
set_option maxHeartbeats 4000000
set_option linter.unusedSimpArgs false
set_option linter.unusedVariables false
attribute [local go_sem] List.size_toArray Int.toNat_zero Nat.sub_zero size_mk top_val eq_self datL X.dat u8min u8max i64min i64max stepT gdO aop ev lit litOk putF fzX_false putO upd app List.contains_nil List.elem_nil aBin aInt aStr aBool aLen lenTy aBuiltin aLoad aTake aTakeX aStore splice aSlice aBd look_cons look_nil lookC_cons lookC_nil by_s by_C start_s start_C X.cells X.cell List.all_cons List.all_nil Bool.and_self Bool.not_true Bool.not_false false_implies true_implies forall_const and_true true_and and_self implies_true not_false_eq_true Nat.zero_add Nat.add_zero List.getD_cons_zero List.getD_cons_succ List.map_cons List.map_nil Option.bind_some Option.map_some Option.map_none List.getElem?_cons_zero List.getElem?_cons_succ List.length_cons List.length_nil List.drop_zero List.drop_succ_cons List.take_succ_cons List.take_zero List.cons_append List.nil_append List.append_nil D.of List.length_map all_get_map Option.isSome_some and_false false_and Nat.lt_add_one Nat.zero_lt_succ decide_true decide_false aPart aSl2 Nat.lt_irrefl fzX litEs List.contains_cons List.elem_cons Bool.true_or Bool.or_true Bool.false_or Bool.or_false beq_self_eq_true
section
attribute [local go_sem] tsz9 tsz39 tel39 tsz29 tel29 toNat_cast und9 und4 tsz35 tfld35 tel25 zero35 owX
theorem ownerOf_law (bs : List UInt8) : Fun Tryd.prog 4 [.d (.of bX bs)] (.d (.bool true)) := by
  refine Fun.of ?_ rfl rfl
  refine Spec.of (fn := Tryd.f4) Tryd.func4 rfl (by kernel_rfl) (rs := [.tmp 2]) rfl 1 (by simp [Tryd.f4]) rfl (by simp) ?_
  intro hreal
  rintro ⟨P, T, L0, w0, ι0, C0, U0⟩ hP hT hU
  subst hP hT
  refine st ?_
  all_goals first
  | fail_if_success with_reducible refine atR 0 ?_
  | (
    refine rg 0 [] [some 2] 1 ?_
    all_goals refine qP ?_
    all_goals refine qE ?_)
  all_goals first
  | fail_if_success with_reducible refine atR 1 ?_
  | (
    refine rg 1 [] [some 9, some 10, some 11] 3 ?_
    all_goals iterate 3 refine qP ?_
    all_goals refine qE ?_)
  all_goals first
  | fail_if_success with_reducible refine atC 11 ?_
  | (
    refine cn 11 ?_ ?_ <;> intro hc11 <;> try (cases hc11; done)
    all_goals refine st ?_)
  all_goals first
  | fail_if_success with_reducible refine atR 2 ?_
  | (
    refine rg 2 [] [some 2] 1 ?_
    all_goals refine qP ?_
    all_goals refine qE ?_)
  all_goals first
  | fail_if_success with_reducible refine atR 3 ?_
  | (
    refine rg 3 [] [some 13, some 14, some 12, some 15, some 16, some 3, some 4] 7 ?_
    all_goals refine qP ?_
    all_goals (
      refine qL_cons ?_
      intro R hR
      refine sm ?_
      refine call_ex (DrawOwnerOf_spec bs) ⟨_, [], ByteArray.empty, by simp, by simp, by decide, rfl⟩ ?_ ?_
      · exact ⟨.inl rfl, trivial⟩
      rintro _ ⟨os, path, hos, hol, hpa, rfl⟩
      have hs : ∀ o ∈ os, o.path.size ≤ 1000000 := fun o ho => by have := hos o ho; omega
      have hp : path.size ≤ 1000000 := by omega
      refine sm ?_
      all_goals (refine hR _ ?_; clear hR R))
    all_goals iterate 5 refine qP ?_
    all_goals refine qE ?_)
  all_goals first
  | fail_if_success with_reducible refine atR 4 ?_
  | (
    refine rg 4 [] [some 17, some 18, some 19, some 5] 4 ?_
    all_goals iterate 2 refine qP ?_
    all_goals (
      refine qL_cons ?_
      intro R hR
      refine sm ?_
      refine call_fun (implOwnerOf os path hs hp) [] ?_ (.inl rfl) ?_
      · exact ⟨.inl rfl, ⟨.inl rfl, trivial⟩⟩
      refine sm ?_
      all_goals (refine hR _ ?_; clear hR R))
    all_goals refine qP ?_
    all_goals refine qE ?_)
  all_goals first
  | fail_if_success with_reducible refine atR 5 ?_
  | (
    refine rg 5 [] [some 20, some 21, some 22, some 23, some 24, some 25, some 26, some 27, some 28, some 29, some 30, some 31, some 32, some 33, some 34, some 35, some 36, some 37, some 38, some 39, some 40, some 41] 22 ?_
    all_goals iterate 3 refine qP ?_
    all_goals (
      refine qL_cons ?_
      intro R hR
      refine sm ?_
      refine call_fun (specOwnerOf os path hs hp) [] ?_ (.inl rfl) ?_
      · exact ⟨.inl rfl, ⟨.inl rfl, trivial⟩⟩
      refine sm ?_
      all_goals (refine hR _ ?_; clear hR R))
    all_goals iterate 2 refine qP ?_
    all_goals first | refine qU 25 ?_ | (refine qS 25 ?_ ?_ <;> intro hg5_5 <;> try (cases hg5_5; done))
    all_goals refine qP ?_
    all_goals first
    | (
      refine qL_cons ?_
      intro R hR
      refine sm ?_
      refine call_fun (implOwnersOk os hs) [] ?_ (.inl rfl) ?_
      · exact ⟨.inl rfl, trivial⟩
      refine sm ?_
      refine hR _ ?_
      clear hR R)
    | refine qP ?_
    all_goals refine qP ?_
    all_goals first
    | (
      refine qL_cons ?_
      intro R hR
      refine sm ?_
      refine call_fun (specOwnersOk os hs) [] ?_ (.inl rfl) ?_
      · exact ⟨.inl rfl, trivial⟩
      refine sm ?_
      refine hR _ ?_
      clear hR R)
    | refine qP ?_
    all_goals iterate 3 refine qP ?_
    all_goals first | refine qU 32 ?_ | (refine qS 32 ?_ ?_ <;> intro hg5_12 <;> try (cases hg5_12; done))
    all_goals refine qP ?_
    all_goals first
    | (
      refine qL_cons ?_
      intro R hR
      refine sm ?_
      refine call_fun (implOwnersOk os hs) [] ?_ (.inl rfl) ?_
      · exact ⟨.inl rfl, trivial⟩
      refine sm ?_
      refine hR _ ?_
      clear hR R)
    | refine qP ?_
    all_goals iterate 3 refine qP ?_
    all_goals first | refine qU 37 ?_ | (refine qS 37 ?_ ?_ <;> intro hg5_17 <;> try (cases hg5_17; done))
    all_goals refine qP ?_
    all_goals first
    | (
      refine qL_cons ?_
      intro R hR
      refine sm ?_
      refine call_fun (PathOk_spec path hp) [] ?_ (.inl rfl) ?_
      · exact ⟨.inl rfl, trivial⟩
      refine sm ?_
      refine hR _ ?_
      clear hR R)
    | refine qP ?_
    all_goals iterate 2 refine qP ?_
    all_goals refine qE ?_)
  all_goals first
  | fail_if_success with_reducible refine atC 41 ?_
  | (
    refine cn 41 ?_ ?_ <;> intro hc41 <;> try (cases hc41; done)
    all_goals refine st ?_)
  all_goals try (have h1 : owB os = true := by simp_all)
  all_goals try (have h2 : pthB path = true := by simp_all)
  all_goals first
  | fail_if_success with_reducible refine atR 6 ?_
  | (
    refine rg 6 [] [some 42, some 43, some 44, some 45, some 46, some 47, some 48, some 49, some 50, some 51, some 52, some 53, some 2] 13 ?_
    all_goals iterate 3 refine qP ?_
    all_goals (
      refine qL_cons ?_
      intro R hR
      refine sm ?_
      refine call_fun (specOwnerOf os path hs hp) [] ?_ (.inl rfl) ?_
      · exact ⟨.inl rfl, ⟨.inl rfl, trivial⟩⟩
      refine sm ?_
      all_goals (refine hR _ ?_; clear hR R))
    all_goals iterate 2 refine qP ?_
    all_goals first | refine qU 47 ?_ | (refine qS 47 ?_ ?_ <;> intro hg6_5 <;> try (cases hg6_5; done))
    all_goals refine qP ?_
    all_goals first
    | (
      refine qL_cons ?_
      intro R hR
      refine sm ?_
      refine call_fun (implOwnersOk os hs) [] ?_ (.inl rfl) ?_
      · exact ⟨.inl rfl, trivial⟩
      refine sm ?_
      refine hR _ ?_
      clear hR R)
    | refine qP ?_
    all_goals refine qP ?_
    all_goals first
    | (
      refine qL_cons ?_
      intro R hR
      refine sm ?_
      refine call_fun (specOwnersOk os hs) [] ?_ (.inl rfl) ?_
      · exact ⟨.inl rfl, trivial⟩
      refine sm ?_
      refine hR _ ?_
      clear hR R)
    | refine qP ?_
    all_goals iterate 3 refine qP ?_
    all_goals refine qE ?_)
  all_goals first
  | fail_if_success with_reducible refine atR 7 ?_
  | (
    refine rg 7 [] [some 6] 1 ?_
    all_goals refine qP ?_
    all_goals refine qE ?_)
  all_goals first
  | fail_if_success with_reducible refine atR 8 ?_
  | (
    refine rg 8 [] [some 7] 1 ?_
    all_goals refine qP ?_
    all_goals refine qE ?_)
  all_goals first
  | fail_if_success with_reducible refine atR 9 ?_
  | (
    refine rg 9 [] [some 8] 1 ?_
    all_goals refine qP ?_
    all_goals refine qE ?_)
  all_goals first
  | fail_if_success with_reducible refine AW.rounds (α := Nat) ?_ ?_ ?_ ?_ ?_ ?_ ?_ ?_
  | (
    refine AW.rounds (α := Nat) (fun i => i ≤ os.length) (fun i => St.by [(3, .d (.of owX os)), (4, .d (.str path)), (5, .d (.str (ofB os path))), (6, .d (.str (whoF path (os.take i)).1)), (7, .d (.str (whoF path (os.take i)).2)), (8, .d (.int .i64 i))] []) (fun i => os.length - i) 62 0 ?_ ?_ ?_
    · omega
    · refine Vw.to [] _ _ (vU hU) ?_ ?_ (by simp [tauL])
      · refine vd (vd (vd (vw_d ?_ (vw_d ?_ (vw_d ?_ (trivial))))))
        · first
          | exact cl2
          | (
            refine sm2 ?_
            all_goals (
             rfl))
        · first
          | exact cl2
          | (
            refine sm2 ?_
            all_goals (
             rfl))
        · first
          | exact cl2
          | (
            refine sm2 ?_
            all_goals (
             rfl))
      · trivial
    · intro i hJ
      refine st ?_
      have hatc : ∀ d, atW d path = (decide (d = path) || inB d path) := fun _ => rfl
      all_goals first
      | fail_if_success with_reducible refine atR 10 ?_
      | (
        refine rg 10 [] [some 54, some 55, some 56, some 57] 4 ?_
        all_goals iterate 4 refine qP ?_
        all_goals refine qE ?_)
      all_goals first
      | fail_if_success with_reducible refine atC 57 ?_
      | (
        refine cn 57 ?_ ?_ <;> intro hc57 <;> try (cases hc57; done)
        all_goals refine st ?_)
      all_goals first
      | fail_if_success with_reducible refine atR 12 ?_
      | (
        refine rg 12 [] [some 60, some 61, some 62, some 63, some 64, some 65, some 66, some 67, some 68, some 69, some 70, some 71, some 72, some 73, some 74, some 75, some 76, some 77, some 78, some 79, some 80, some 81, some 82, some 83, some 84, some 85, some 86] 27 ?_
        all_goals iterate 2 refine qP ?_
        all_goals (
          refine qL_cons ?_
          intro R hR
          refine sm ?_
          refine ⟨⟨by omega, by omega⟩, ?_⟩
          intro x hx
          have hxs := hs x (List.mem_of_getElem? hx)
          try simp only [go_sem, reduceIte, reduceCtorEq, Nat.reduceAdd, Nat.reduceEqDiff, Nat.reduceLeDiff, Nat.reduceLT, Nat.reduceSub, Int.reduceLE, Int.reduceNeg, Int.reduceLT, owX]
          all_goals (refine hR _ ?_; clear hR R))
        all_goals iterate 5 refine qP ?_
        all_goals first | refine qU 67 ?_ | (refine qS 67 ?_ ?_ <;> intro hg12_7 <;> try (cases hg12_7; done))
        all_goals iterate 2 refine qP ?_
        all_goals first
        | (
          refine qL_cons ?_
          intro R hR
          refine sm ?_
          refine ⟨⟨by omega, by omega⟩, ?_⟩
          refine get_use hx ?_
          try simp only [go_sem, reduceIte, reduceCtorEq, Nat.reduceAdd, Nat.reduceEqDiff, Nat.reduceLeDiff, Nat.reduceLT, Nat.reduceSub, Int.reduceLE, Int.reduceNeg, Int.reduceLT, owX]
          refine hR _ ?_
          clear hR R)
        | refine qP ?_
        all_goals iterate 3 refine qP ?_
        all_goals first
        | (
          refine qL_cons ?_
          intro R hR
          refine sm ?_
          refine call_fun (PathIn_spec x.path path hxs hp) [] ?_ (.inl rfl) ?_
          · exact ⟨.inl rfl, ⟨.inl rfl, trivial⟩⟩
          refine sm ?_
          refine hR _ ?_
          clear hR R)
        | refine qP ?_
        all_goals iterate 2 refine qP ?_
        all_goals first | refine qU 76 ?_ | (refine qS 76 ?_ ?_ <;> intro hg12_16 <;> try (cases hg12_16; done))
        all_goals iterate 2 refine qP ?_
        all_goals first
        | (
          refine qL_cons ?_
          intro R hR
          refine sm ?_
          refine ⟨⟨by omega, by omega⟩, ?_⟩
          refine get_use hx ?_
          try simp only [go_sem, reduceIte, reduceCtorEq, Nat.reduceAdd, Nat.reduceEqDiff, Nat.reduceLeDiff, Nat.reduceLT, Nat.reduceSub, Int.reduceLE, Int.reduceNeg, Int.reduceLT, owX]
          refine hR _ ?_
          clear hR R)
        | refine qP ?_
        all_goals iterate 7 refine qP ?_
        all_goals refine qE ?_)
      all_goals first
      | fail_if_success with_reducible refine atC 86 ?_
      | (
        refine cn 86 ?_ ?_ <;> intro hc86 <;> try (cases hc86; done)
        all_goals refine st ?_)
      all_goals first
      | fail_if_success with_reducible refine atR 13 ?_
      | (
        refine rg 13 [] [some 87, some 88, some 89, some 90, some 91, some 6] 6 ?_
        all_goals iterate 2 refine qP ?_
        all_goals (
          refine qL_cons ?_
          intro R hR
          refine sm ?_
          refine ⟨⟨by omega, by omega⟩, ?_⟩
          refine get_use hx ?_
          try simp only [go_sem, reduceIte, reduceCtorEq, Nat.reduceAdd, Nat.reduceEqDiff, Nat.reduceLeDiff, Nat.reduceLT, Nat.reduceSub, Int.reduceLE, Int.reduceNeg, Int.reduceLT, owX]
          all_goals (refine hR _ ?_; clear hR R))
        all_goals iterate 3 refine qP ?_
        all_goals refine qE ?_)
      all_goals first
      | fail_if_success with_reducible refine atR 14 ?_
      | (
        refine rg 14 [] [some 92, some 93, some 94, some 95, some 96, some 7] 6 ?_
        all_goals iterate 2 refine qP ?_
        all_goals (
          refine qL_cons ?_
          intro R hR
          refine sm ?_
          refine ⟨⟨by omega, by omega⟩, ?_⟩
          refine get_use hx ?_
          try simp only [go_sem, reduceIte, reduceCtorEq, Nat.reduceAdd, Nat.reduceEqDiff, Nat.reduceLeDiff, Nat.reduceLT, Nat.reduceSub, Int.reduceLE, Int.reduceNeg, Int.reduceLT, owX]
          all_goals (refine hR _ ?_; clear hR R))
        all_goals iterate 3 refine qP ?_
        all_goals refine qE ?_)
      all_goals first
      | fail_if_success with_reducible refine atR 11 ?_
      | (
        refine rg 11 [] [some 58, some 59, some 8] 3 ?_
        all_goals refine qP ?_
        all_goals (
          refine qL_cons ?_
          intro R hR
          refine sm ?_
          rw [wrap64 (by omega) (by omega)]
          all_goals (refine hR _ ?_; clear hR R))
        all_goals refine qP ?_
        all_goals refine qE ?_)
      all_goals first
      | fail_if_success with_reducible refine ⟨i + 1, ?_, ?_, ?_⟩
      | (
        refine ⟨i + 1, ?_, ?_, ?_⟩
        · omega
        · omega
        · refine Vw.to [] _ _ (vU hU) ?_ ?_ (by simp [tauL])
          · refine vd (vd (vd (vw_d ?_ (vw_d ?_ (vw_d ?_ (trivial))))))
            · first
              | exact cl2
              | (
                refine sm2 ?_
                all_goals (
                 have hpi : pinB x.path path = inB x.path path := by simp only [pinB, ow_path h1 hx, h2, hp_in, Bool.true_and]
                 have hw := who_step (path := path) hx
                 unfold whoS at hw
                 by_cases hq : (atW x.path path && decide (((whoF path (os.take i)).1.size : Int) < (x.path.size : Int))) = true
                 · rw [if_pos hq] at hw
                   (rw [hw]) <;> (first | rfl | (exfalso; simp_all; done) | (exfalso; simp_all; omega))
                 · rw [if_neg hq] at hw
                   (rw [hw]) <;> (first | rfl | (exfalso; simp_all; done) | (exfalso; simp_all; omega))))
            · first
              | exact cl2
              | (
                refine sm2 ?_
                all_goals (
                 have hpi : pinB x.path path = inB x.path path := by simp only [pinB, ow_path h1 hx, h2, hp_in, Bool.true_and]
                 have hw := who_step (path := path) hx
                 unfold whoS at hw
                 by_cases hq : (atW x.path path && decide (((whoF path (os.take i)).1.size : Int) < (x.path.size : Int))) = true
                 · rw [if_pos hq] at hw
                   (rw [hw]) <;> (first | rfl | (exfalso; simp_all; done) | (exfalso; simp_all; omega))
                 · rw [if_neg hq] at hw
                   (rw [hw]) <;> (first | rfl | (exfalso; simp_all; done) | (exfalso; simp_all; omega))))
            · first
              | exact cl2
              | (
                refine sm2 ?_
                all_goals (
                 congr 1))
          · trivial)
      all_goals first
      | fail_if_success with_reducible refine atR 15 ?_
      | (
        refine rg 15 [] [some 97, some 98, some 99, some 2] 4 ?_
        all_goals iterate 4 refine qP ?_
        all_goals refine qE ?_)
      all_goals first
      | fail_if_success with_reducible refine ret_fun (t := 2) ?_ ?_
      | (
        refine ret_fun (t := 2) ?_ (fun _ => rfl)
        first
        | exact cl
        | (
          try refine sm ?_
          all_goals (
           (congr 2
            have hi : i = os.length := by omega
            subst hi
            rw [List.take_length]
            simp [ofB, h1, h2])))))
  all_goals first
  | fail_if_success with_reducible refine ret_fun (t := 2) ?_ ?_
  | (
    refine ret_fun (t := 2) ?_ (fun _ => rfl)
    first
    | exact cl
    | (
      try refine sm ?_
      all_goals (
       (congr 2; simp_all; done))))

end
end Go.Proofs.YtkbnkcdaiahoeaaDoor
