/- the law FnExactReviewOk over data. No condition. -/
import Derived.Test.YtmlbdicaeefomaaE11
namespace Go.Proofs.Ytmlbdicaeefomaa
open Go Go.RowKit
set_option maxRecDepth 100000
set_option linter.unusedSimpArgs false
set_option linter.unusedVariables false
attribute [local go_sem] List.size_toArray Int.toNat_zero Nat.sub_zero size_mk top_val eq_self datL X.dat u8min u8max i64min i64max stepT gdO aop ev lit litOk putF fzX_false putO upd app List.contains_nil List.elem_nil aBin aInt aStr aBool aLen lenTy aBuiltin aLoad aTake aTakeX aStore splice aSlice aBd look_cons look_nil lookC_cons lookC_nil by_s by_C start_s start_C X.cells X.cell List.all_cons List.all_nil Bool.and_self Bool.not_true Bool.not_false false_implies true_implies forall_const and_true true_and and_self implies_true not_false_eq_true Nat.zero_add Nat.add_zero List.getD_cons_zero List.getD_cons_succ List.map_cons List.map_nil Option.bind_some Option.map_some Option.map_none List.getElem?_cons_zero List.getElem?_cons_succ List.length_cons List.length_nil List.drop_zero List.drop_succ_cons List.take_succ_cons List.take_zero List.cons_append List.nil_append List.append_nil D.of List.length_map all_get_map Option.isSome_some and_false false_and Nat.lt_add_one Nat.zero_lt_succ decide_true decide_false
theorem und4 : Try.prog.underlying 4 = some .bool := by kernel_rfl
def toD (ss : List ByteArray) : D := spOf ss.length ((ss ++ List.replicate (room ss.length) spare).map sS)
theorem toS_false (ss : List ByteArray) : toS ss false = .d (toD ss) := rfl
theorem intact_spec (ss : List ByteArray) (h : ss.length ≤ 1000000) : Fun Try.prog 35 [.d (toD ss), .d (toD ss)] (.d (.bool true)) := by
  unfold toD spOf
  split
  · rename_i hh
    have hr : room ss.length = 0 := by simp at hh; omega
    rw [hr, List.replicate_zero, List.append_nil]
    exact intactA ss hr h
  · exact intactB _ _ (by simp) h
theorem szRv_len {v : Rv} {left : Int} (h0 : 0 ≤ left) (h1 : left ≤ 1000000) (h : 0 ≤ szRv v left) : v.yes.length ≤ 1000000 := by
  simp only [szRv] at h
  split at h
  · omega
  split at h
  · omega
  split at h
  · omega
  split at h
  · omega
  have := szS_len (by omega) h
  omega
theorem intactReview_spec (v : Rv) (hv : v.yes.length ≤ 1000000) : Fun Try.prog 12 [.ag [.d (.str v.br), .d (.str v.into), .d (.str v.by_), .d (toD v.yes)], .ag [.d (.str v.br), .d (.str v.into), .d (.str v.by_), .d (toD v.yes)]] (.d (.bool true)) := by
  refine Fun.of ?_ rfl rfl
  refine Spec.of (fn := Try.f12) Try.func12 rfl (by kernel_rfl) (rs := [.tmp 4]) rfl 1 (by simp [Try.f12]) rfl (by simp) ?_
  intro hreal
  rintro ⟨P, T, L0, w0, ι0, C0, U0⟩ hP hT hU
  subst hP hT
  repeat with_reducible (first | refine EThen_n ?_ | refine EThen_r ?_ | refine EThen_e ?_ | refine EBlock_n ?_ | refine EBlock_r ?_ | refine EBlock_e ?_ | refine EBlock_o (by decide) ?_ | refine AW.seqX ?_ | refine AW.block ?_ | refine AW.skip ?_ | refine AW.exit ?_ | refine AW.ret ?_)
  all_goals first
    | (fail_if_success (with_reducible refine AW.endR 0 ?_ ?_ ?_ ?_ ?_ ?_ ?_))
    | (
        refine AW.endR 0 [] [some 2, some 3, some 4] 3 rfl rfl rfl ?_
        intro K hK
        all_goals refine qL_cons ?_
        all_goals (
          intro R hR
          simp only [go_sem, reduceIte, reduceCtorEq, Nat.reduceAdd, Nat.reduceEqDiff, Nat.reduceLeDiff, Nat.reduceLT, Nat.reduceSub, Int.reduceLE, Int.reduceNeg, Int.reduceLT, tsz9, tsz22, tsz27, tfld27, tsz24, tfld24, tel22, toNat_cast, und9, zero27, und4, bne_self_eq_false]
          all_goals (refine hR _ ?_; clear hR; clear R))
        all_goals refine qL_cons ?_
        all_goals (
          intro R hR
          simp only [go_sem, reduceIte, reduceCtorEq, Nat.reduceAdd, Nat.reduceEqDiff, Nat.reduceLeDiff, Nat.reduceLT, Nat.reduceSub, Int.reduceLE, Int.reduceNeg, Int.reduceLT, tsz9, tsz22, tsz27, tfld27, tsz24, tfld24, tel22, toNat_cast, und9, zero27, und4, bne_self_eq_false]
          all_goals (refine hR _ ?_; clear hR; clear R))
        all_goals refine qL_cons ?_
        all_goals (
          intro R hR
          simp only [go_sem, reduceIte, reduceCtorEq, Nat.reduceAdd, Nat.reduceEqDiff, Nat.reduceLeDiff, Nat.reduceLT, Nat.reduceSub, Int.reduceLE, Int.reduceNeg, Int.reduceLT, tsz9, tsz22, tsz27, tfld27, tsz24, tfld24, tel22, toNat_cast, und9, zero27, und4, bne_self_eq_false]
          all_goals (refine hR _ ?_; clear hR; clear R))
        all_goals (refine qL_nil ?_; refine hK _ ?_; clear hK; clear K)
        all_goals (repeat with_reducible (first | refine EThen_n ?_ | refine EThen_r ?_ | refine EThen_e ?_ | refine EBlock_n ?_ | refine EBlock_r ?_ | refine EBlock_e ?_ | refine EBlock_o (by decide) ?_ | refine AW.seqX ?_ | refine AW.block ?_ | refine AW.skip ?_ | refine AW.exit ?_ | refine AW.ret ?_)))
  all_goals first
    | (fail_if_success (with_reducible refine AW.endR 1 ?_ ?_ ?_ ?_ ?_ ?_ ?_))
    | (
        refine AW.endR 1 [] [some 5, some 6, some 7, some 8, some 9] 5 rfl rfl rfl ?_
        intro K hK
        all_goals refine qL_cons ?_
        all_goals (
          intro R hR
          simp only [go_sem, reduceIte, reduceCtorEq, Nat.reduceAdd, Nat.reduceEqDiff, Nat.reduceLeDiff, Nat.reduceLT, Nat.reduceSub, Int.reduceLE, Int.reduceNeg, Int.reduceLT, tsz9, tsz22, tsz27, tfld27, tsz24, tfld24, tel22, toNat_cast, und9, zero27, und4, bne_self_eq_false]
          all_goals (refine hR _ ?_; clear hR; clear R))
        all_goals refine qL_cons ?_
        all_goals (
          intro R hR
          simp only [go_sem, reduceIte, reduceCtorEq, Nat.reduceAdd, Nat.reduceEqDiff, Nat.reduceLeDiff, Nat.reduceLT, Nat.reduceSub, Int.reduceLE, Int.reduceNeg, Int.reduceLT, tsz9, tsz22, tsz27, tfld27, tsz24, tfld24, tel22, toNat_cast, und9, zero27, und4, bne_self_eq_false]
          all_goals (refine hR _ ?_; clear hR; clear R))
        all_goals refine qL_cons ?_
        all_goals (
          intro R hR
          simp only [go_sem, reduceIte, reduceCtorEq, Nat.reduceAdd, Nat.reduceEqDiff, Nat.reduceLeDiff, Nat.reduceLT, Nat.reduceSub, Int.reduceLE, Int.reduceNeg, Int.reduceLT, tsz9, tsz22, tsz27, tfld27, tsz24, tfld24, tel22, toNat_cast, und9, zero27, und4, bne_self_eq_false]
          all_goals (refine hR _ ?_; clear hR; clear R))
        all_goals refine qL_cons ?_
        all_goals (
          intro R hR
          simp only [go_sem, reduceIte, reduceCtorEq, Nat.reduceAdd, Nat.reduceEqDiff, Nat.reduceLeDiff, Nat.reduceLT, Nat.reduceSub, Int.reduceLE, Int.reduceNeg, Int.reduceLT, tsz9, tsz22, tsz27, tfld27, tsz24, tfld24, tel22, toNat_cast, und9, zero27, und4, bne_self_eq_false]
          all_goals (refine hR _ ?_; clear hR; clear R))
        all_goals refine qL_cons ?_
        all_goals (
          intro R hR
          simp only [go_sem, reduceIte, reduceCtorEq, Nat.reduceAdd, Nat.reduceEqDiff, Nat.reduceLeDiff, Nat.reduceLT, Nat.reduceSub, Int.reduceLE, Int.reduceNeg, Int.reduceLT, tsz9, tsz22, tsz27, tfld27, tsz24, tfld24, tel22, toNat_cast, und9, zero27, und4, bne_self_eq_false]
          all_goals (refine hR _ ?_; clear hR; clear R))
        all_goals (refine qL_nil ?_; refine hK _ ?_; clear hK; clear K)
        all_goals (repeat with_reducible (first | refine EThen_n ?_ | refine EThen_r ?_ | refine EThen_e ?_ | refine EBlock_n ?_ | refine EBlock_r ?_ | refine EBlock_e ?_ | refine EBlock_o (by decide) ?_ | refine AW.seqX ?_ | refine AW.block ?_ | refine AW.skip ?_ | refine AW.exit ?_ | refine AW.ret ?_)))
  all_goals first
    | (fail_if_success (with_reducible refine AW.cnd 9 (b := ?_) ?_ ?_ ?_))
    | (
        refine AW.cnd 9 (by simp only [go_sem, reduceIte, reduceCtorEq, Nat.reduceAdd, Nat.reduceEqDiff, Nat.reduceLeDiff, Nat.reduceLT, Nat.reduceSub, Int.reduceLE, Int.reduceNeg, Int.reduceLT, tsz9, tsz22, tsz27, tfld27, tsz24, tfld24, tel22, toNat_cast, und9, zero27, und4, bne_self_eq_false] <;> rfl) ?_ ?_ <;> intro hc9 <;> try (cases hc9; done)
        all_goals try simp only [decide_eq_true_eq, decide_eq_false_iff_not, Bool.not_eq_true', Bool.not_eq_false', Bool.and_eq_true, Bool.or_eq_true, Bool.or_eq_false_iff, beq_iff_eq, Int.not_le, Int.not_lt, Nat.not_le, Nat.not_lt] at hc9
        all_goals (repeat with_reducible (first | refine EThen_n ?_ | refine EThen_r ?_ | refine EThen_e ?_ | refine EBlock_n ?_ | refine EBlock_r ?_ | refine EBlock_e ?_ | refine EBlock_o (by decide) ?_ | refine AW.seqX ?_ | refine AW.block ?_ | refine AW.skip ?_ | refine AW.exit ?_ | refine AW.ret ?_)))
  all_goals first
    | (fail_if_success (with_reducible refine AW.endR 2 ?_ ?_ ?_ ?_ ?_ ?_ ?_))
    | (
        refine AW.endR 2 [] [some 4] 1 rfl rfl rfl ?_
        intro K hK
        all_goals refine qL_cons ?_
        all_goals (
          intro R hR
          simp only [go_sem, reduceIte, reduceCtorEq, Nat.reduceAdd, Nat.reduceEqDiff, Nat.reduceLeDiff, Nat.reduceLT, Nat.reduceSub, Int.reduceLE, Int.reduceNeg, Int.reduceLT, tsz9, tsz22, tsz27, tfld27, tsz24, tfld24, tel22, toNat_cast, und9, zero27, und4, bne_self_eq_false]
          all_goals (refine hR _ ?_; clear hR; clear R))
        all_goals (refine qL_nil ?_; refine hK _ ?_; clear hK; clear K)
        all_goals (repeat with_reducible (first | refine EThen_n ?_ | refine EThen_r ?_ | refine EThen_e ?_ | refine EBlock_n ?_ | refine EBlock_r ?_ | refine EBlock_e ?_ | refine EBlock_o (by decide) ?_ | refine AW.seqX ?_ | refine AW.block ?_ | refine AW.skip ?_ | refine AW.exit ?_ | refine AW.ret ?_)))
  all_goals first
    | (fail_if_success (with_reducible refine AW.endR 3 ?_ ?_ ?_ ?_ ?_ ?_ ?_))
    | (
        refine AW.endR 3 [] [some 10, some 11, some 12, some 13, some 14] 5 rfl rfl rfl ?_
        intro K hK
        all_goals refine qL_cons ?_
        all_goals (
          intro R hR
          simp only [go_sem, reduceIte, reduceCtorEq, Nat.reduceAdd, Nat.reduceEqDiff, Nat.reduceLeDiff, Nat.reduceLT, Nat.reduceSub, Int.reduceLE, Int.reduceNeg, Int.reduceLT, tsz9, tsz22, tsz27, tfld27, tsz24, tfld24, tel22, toNat_cast, und9, zero27, und4, bne_self_eq_false]
          all_goals (refine hR _ ?_; clear hR; clear R))
        all_goals refine qL_cons ?_
        all_goals (
          intro R hR
          simp only [go_sem, reduceIte, reduceCtorEq, Nat.reduceAdd, Nat.reduceEqDiff, Nat.reduceLeDiff, Nat.reduceLT, Nat.reduceSub, Int.reduceLE, Int.reduceNeg, Int.reduceLT, tsz9, tsz22, tsz27, tfld27, tsz24, tfld24, tel22, toNat_cast, und9, zero27, und4, bne_self_eq_false]
          all_goals (refine hR _ ?_; clear hR; clear R))
        all_goals refine qL_cons ?_
        all_goals (
          intro R hR
          simp only [go_sem, reduceIte, reduceCtorEq, Nat.reduceAdd, Nat.reduceEqDiff, Nat.reduceLeDiff, Nat.reduceLT, Nat.reduceSub, Int.reduceLE, Int.reduceNeg, Int.reduceLT, tsz9, tsz22, tsz27, tfld27, tsz24, tfld24, tel22, toNat_cast, und9, zero27, und4, bne_self_eq_false]
          all_goals (refine hR _ ?_; clear hR; clear R))
        all_goals refine qL_cons ?_
        all_goals (
          intro R hR
          simp only [go_sem, reduceIte, reduceCtorEq, Nat.reduceAdd, Nat.reduceEqDiff, Nat.reduceLeDiff, Nat.reduceLT, Nat.reduceSub, Int.reduceLE, Int.reduceNeg, Int.reduceLT, tsz9, tsz22, tsz27, tfld27, tsz24, tfld24, tel22, toNat_cast, und9, zero27, und4, bne_self_eq_false]
          all_goals (refine hR _ ?_; clear hR; clear R))
        all_goals refine qL_cons ?_
        all_goals (
          intro R hR
          simp only [go_sem, reduceIte, reduceCtorEq, Nat.reduceAdd, Nat.reduceEqDiff, Nat.reduceLeDiff, Nat.reduceLT, Nat.reduceSub, Int.reduceLE, Int.reduceNeg, Int.reduceLT, tsz9, tsz22, tsz27, tfld27, tsz24, tfld24, tel22, toNat_cast, und9, zero27, und4, bne_self_eq_false]
          all_goals (refine hR _ ?_; clear hR; clear R))
        all_goals (refine qL_nil ?_; refine hK _ ?_; clear hK; clear K)
        all_goals (repeat with_reducible (first | refine EThen_n ?_ | refine EThen_r ?_ | refine EThen_e ?_ | refine EBlock_n ?_ | refine EBlock_r ?_ | refine EBlock_e ?_ | refine EBlock_o (by decide) ?_ | refine AW.seqX ?_ | refine AW.block ?_ | refine AW.skip ?_ | refine AW.exit ?_ | refine AW.ret ?_)))
  all_goals first
    | (fail_if_success (with_reducible refine AW.cnd 14 (b := ?_) ?_ ?_ ?_))
    | (
        refine AW.cnd 14 (by simp only [go_sem, reduceIte, reduceCtorEq, Nat.reduceAdd, Nat.reduceEqDiff, Nat.reduceLeDiff, Nat.reduceLT, Nat.reduceSub, Int.reduceLE, Int.reduceNeg, Int.reduceLT, tsz9, tsz22, tsz27, tfld27, tsz24, tfld24, tel22, toNat_cast, und9, zero27, und4, bne_self_eq_false] <;> rfl) ?_ ?_ <;> intro hc14 <;> try (cases hc14; done)
        all_goals try simp only [decide_eq_true_eq, decide_eq_false_iff_not, Bool.not_eq_true', Bool.not_eq_false', Bool.and_eq_true, Bool.or_eq_true, Bool.or_eq_false_iff, beq_iff_eq, Int.not_le, Int.not_lt, Nat.not_le, Nat.not_lt] at hc14
        all_goals (repeat with_reducible (first | refine EThen_n ?_ | refine EThen_r ?_ | refine EThen_e ?_ | refine EBlock_n ?_ | refine EBlock_r ?_ | refine EBlock_e ?_ | refine EBlock_o (by decide) ?_ | refine AW.seqX ?_ | refine AW.block ?_ | refine AW.skip ?_ | refine AW.exit ?_ | refine AW.ret ?_)))
  all_goals first
    | (fail_if_success (with_reducible refine AW.endR 4 ?_ ?_ ?_ ?_ ?_ ?_ ?_))
    | (
        refine AW.endR 4 [] [some 4] 1 rfl rfl rfl ?_
        intro K hK
        all_goals refine qL_cons ?_
        all_goals (
          intro R hR
          simp only [go_sem, reduceIte, reduceCtorEq, Nat.reduceAdd, Nat.reduceEqDiff, Nat.reduceLeDiff, Nat.reduceLT, Nat.reduceSub, Int.reduceLE, Int.reduceNeg, Int.reduceLT, tsz9, tsz22, tsz27, tfld27, tsz24, tfld24, tel22, toNat_cast, und9, zero27, und4, bne_self_eq_false]
          all_goals (refine hR _ ?_; clear hR; clear R))
        all_goals (refine qL_nil ?_; refine hK _ ?_; clear hK; clear K)
        all_goals (repeat with_reducible (first | refine EThen_n ?_ | refine EThen_r ?_ | refine EThen_e ?_ | refine EBlock_n ?_ | refine EBlock_r ?_ | refine EBlock_e ?_ | refine EBlock_o (by decide) ?_ | refine AW.seqX ?_ | refine AW.block ?_ | refine AW.skip ?_ | refine AW.exit ?_ | refine AW.ret ?_)))
  all_goals first
    | (fail_if_success (with_reducible refine AW.endR 5 ?_ ?_ ?_ ?_ ?_ ?_ ?_))
    | (
        refine AW.endR 5 [] [some 15, some 16, some 17, some 18, some 19] 5 rfl rfl rfl ?_
        intro K hK
        all_goals refine qL_cons ?_
        all_goals (
          intro R hR
          simp only [go_sem, reduceIte, reduceCtorEq, Nat.reduceAdd, Nat.reduceEqDiff, Nat.reduceLeDiff, Nat.reduceLT, Nat.reduceSub, Int.reduceLE, Int.reduceNeg, Int.reduceLT, tsz9, tsz22, tsz27, tfld27, tsz24, tfld24, tel22, toNat_cast, und9, zero27, und4, bne_self_eq_false]
          all_goals (refine hR _ ?_; clear hR; clear R))
        all_goals refine qL_cons ?_
        all_goals (
          intro R hR
          simp only [go_sem, reduceIte, reduceCtorEq, Nat.reduceAdd, Nat.reduceEqDiff, Nat.reduceLeDiff, Nat.reduceLT, Nat.reduceSub, Int.reduceLE, Int.reduceNeg, Int.reduceLT, tsz9, tsz22, tsz27, tfld27, tsz24, tfld24, tel22, toNat_cast, und9, zero27, und4, bne_self_eq_false]
          all_goals (refine hR _ ?_; clear hR; clear R))
        all_goals refine qL_cons ?_
        all_goals (
          intro R hR
          simp only [go_sem, reduceIte, reduceCtorEq, Nat.reduceAdd, Nat.reduceEqDiff, Nat.reduceLeDiff, Nat.reduceLT, Nat.reduceSub, Int.reduceLE, Int.reduceNeg, Int.reduceLT, tsz9, tsz22, tsz27, tfld27, tsz24, tfld24, tel22, toNat_cast, und9, zero27, und4, bne_self_eq_false]
          all_goals (refine hR _ ?_; clear hR; clear R))
        all_goals refine qL_cons ?_
        all_goals (
          intro R hR
          simp only [go_sem, reduceIte, reduceCtorEq, Nat.reduceAdd, Nat.reduceEqDiff, Nat.reduceLeDiff, Nat.reduceLT, Nat.reduceSub, Int.reduceLE, Int.reduceNeg, Int.reduceLT, tsz9, tsz22, tsz27, tfld27, tsz24, tfld24, tel22, toNat_cast, und9, zero27, und4, bne_self_eq_false]
          all_goals (refine hR _ ?_; clear hR; clear R))
        all_goals refine qL_cons ?_
        all_goals (
          intro R hR
          simp only [go_sem, reduceIte, reduceCtorEq, Nat.reduceAdd, Nat.reduceEqDiff, Nat.reduceLeDiff, Nat.reduceLT, Nat.reduceSub, Int.reduceLE, Int.reduceNeg, Int.reduceLT, tsz9, tsz22, tsz27, tfld27, tsz24, tfld24, tel22, toNat_cast, und9, zero27, und4, bne_self_eq_false]
          all_goals (refine hR _ ?_; clear hR; clear R))
        all_goals (refine qL_nil ?_; refine hK _ ?_; clear hK; clear K)
        all_goals (repeat with_reducible (first | refine EThen_n ?_ | refine EThen_r ?_ | refine EThen_e ?_ | refine EBlock_n ?_ | refine EBlock_r ?_ | refine EBlock_e ?_ | refine EBlock_o (by decide) ?_ | refine AW.seqX ?_ | refine AW.block ?_ | refine AW.skip ?_ | refine AW.exit ?_ | refine AW.ret ?_)))
  all_goals first
    | (fail_if_success (with_reducible refine AW.cnd 19 (b := ?_) ?_ ?_ ?_))
    | (
        refine AW.cnd 19 (by simp only [go_sem, reduceIte, reduceCtorEq, Nat.reduceAdd, Nat.reduceEqDiff, Nat.reduceLeDiff, Nat.reduceLT, Nat.reduceSub, Int.reduceLE, Int.reduceNeg, Int.reduceLT, tsz9, tsz22, tsz27, tfld27, tsz24, tfld24, tel22, toNat_cast, und9, zero27, und4, bne_self_eq_false] <;> rfl) ?_ ?_ <;> intro hc19 <;> try (cases hc19; done)
        all_goals try simp only [decide_eq_true_eq, decide_eq_false_iff_not, Bool.not_eq_true', Bool.not_eq_false', Bool.and_eq_true, Bool.or_eq_true, Bool.or_eq_false_iff, beq_iff_eq, Int.not_le, Int.not_lt, Nat.not_le, Nat.not_lt] at hc19
        all_goals (repeat with_reducible (first | refine EThen_n ?_ | refine EThen_r ?_ | refine EThen_e ?_ | refine EBlock_n ?_ | refine EBlock_r ?_ | refine EBlock_e ?_ | refine EBlock_o (by decide) ?_ | refine AW.seqX ?_ | refine AW.block ?_ | refine AW.skip ?_ | refine AW.exit ?_ | refine AW.ret ?_)))
  all_goals first
    | (fail_if_success (with_reducible refine AW.endR 6 ?_ ?_ ?_ ?_ ?_ ?_ ?_))
    | (
        refine AW.endR 6 [] [some 4] 1 rfl rfl rfl ?_
        intro K hK
        all_goals refine qL_cons ?_
        all_goals (
          intro R hR
          simp only [go_sem, reduceIte, reduceCtorEq, Nat.reduceAdd, Nat.reduceEqDiff, Nat.reduceLeDiff, Nat.reduceLT, Nat.reduceSub, Int.reduceLE, Int.reduceNeg, Int.reduceLT, tsz9, tsz22, tsz27, tfld27, tsz24, tfld24, tel22, toNat_cast, und9, zero27, und4, bne_self_eq_false]
          all_goals (refine hR _ ?_; clear hR; clear R))
        all_goals (refine qL_nil ?_; refine hK _ ?_; clear hK; clear K)
        all_goals (repeat with_reducible (first | refine EThen_n ?_ | refine EThen_r ?_ | refine EThen_e ?_ | refine EBlock_n ?_ | refine EBlock_r ?_ | refine EBlock_e ?_ | refine EBlock_o (by decide) ?_ | refine AW.seqX ?_ | refine AW.block ?_ | refine AW.skip ?_ | refine AW.exit ?_ | refine AW.ret ?_)))
  all_goals first
    | (fail_if_success (with_reducible refine AW.endR 7 ?_ ?_ ?_ ?_ ?_ ?_ ?_))
    | (
        refine AW.endR 7 [] [some 20, some 21, some 22, some 23, some 24, some 25] 6 rfl rfl rfl ?_
        intro K hK
        all_goals refine qL_cons ?_
        all_goals (
          intro R hR
          simp only [go_sem, reduceIte, reduceCtorEq, Nat.reduceAdd, Nat.reduceEqDiff, Nat.reduceLeDiff, Nat.reduceLT, Nat.reduceSub, Int.reduceLE, Int.reduceNeg, Int.reduceLT, tsz9, tsz22, tsz27, tfld27, tsz24, tfld24, tel22, toNat_cast, und9, zero27, und4, bne_self_eq_false]
          all_goals (refine hR _ ?_; clear hR; clear R))
        all_goals refine qL_cons ?_
        all_goals (
          intro R hR
          simp only [go_sem, reduceIte, reduceCtorEq, Nat.reduceAdd, Nat.reduceEqDiff, Nat.reduceLeDiff, Nat.reduceLT, Nat.reduceSub, Int.reduceLE, Int.reduceNeg, Int.reduceLT, tsz9, tsz22, tsz27, tfld27, tsz24, tfld24, tel22, toNat_cast, und9, zero27, und4, bne_self_eq_false]
          all_goals (refine hR _ ?_; clear hR; clear R))
        all_goals refine qL_cons ?_
        all_goals (
          intro R hR
          simp only [go_sem, reduceIte, reduceCtorEq, Nat.reduceAdd, Nat.reduceEqDiff, Nat.reduceLeDiff, Nat.reduceLT, Nat.reduceSub, Int.reduceLE, Int.reduceNeg, Int.reduceLT, tsz9, tsz22, tsz27, tfld27, tsz24, tfld24, tel22, toNat_cast, und9, zero27, und4, bne_self_eq_false]
          all_goals (refine hR _ ?_; clear hR; clear R))
        all_goals refine qL_cons ?_
        all_goals (
          intro R hR
          simp only [go_sem, reduceIte, reduceCtorEq, Nat.reduceAdd, Nat.reduceEqDiff, Nat.reduceLeDiff, Nat.reduceLT, Nat.reduceSub, Int.reduceLE, Int.reduceNeg, Int.reduceLT, tsz9, tsz22, tsz27, tfld27, tsz24, tfld24, tel22, toNat_cast, und9, zero27, und4, bne_self_eq_false]
          all_goals (refine hR _ ?_; clear hR; clear R))
        all_goals refine qL_cons ?_
        all_goals (
          intro R hR
          simp only [go_sem, reduceIte, reduceCtorEq, Nat.reduceAdd, Nat.reduceEqDiff, Nat.reduceLeDiff, Nat.reduceLT, Nat.reduceSub, Int.reduceLE, Int.reduceNeg, Int.reduceLT, tsz9, tsz22, tsz27, tfld27, tsz24, tfld24, tel22, toNat_cast, und9, zero27, und4, bne_self_eq_false]
          refine call_fun (intact_spec v.yes hv) [] ?_ (.inl rfl) ?_
          · exact ⟨.inl rfl, ⟨.inl rfl, trivial⟩⟩
          simp only [go_sem, reduceIte, reduceCtorEq, Nat.reduceAdd, Nat.reduceEqDiff, Nat.reduceLeDiff, Nat.reduceLT, Nat.reduceSub, Int.reduceLE, Int.reduceNeg, Int.reduceLT, tsz9, tsz22, tsz27, tfld27, tsz24, tfld24, tel22, toNat_cast, und9, zero27, und4, bne_self_eq_false]
          all_goals (refine hR _ ?_; clear hR; clear R))
        all_goals refine qL_cons ?_
        all_goals (
          intro R hR
          simp only [go_sem, reduceIte, reduceCtorEq, Nat.reduceAdd, Nat.reduceEqDiff, Nat.reduceLeDiff, Nat.reduceLT, Nat.reduceSub, Int.reduceLE, Int.reduceNeg, Int.reduceLT, tsz9, tsz22, tsz27, tfld27, tsz24, tfld24, tel22, toNat_cast, und9, zero27, und4, bne_self_eq_false]
          all_goals (refine hR _ ?_; clear hR; clear R))
        all_goals (refine qL_nil ?_; refine hK _ ?_; clear hK; clear K)
        all_goals (repeat with_reducible (first | refine EThen_n ?_ | refine EThen_r ?_ | refine EThen_e ?_ | refine EBlock_n ?_ | refine EBlock_r ?_ | refine EBlock_e ?_ | refine EBlock_o (by decide) ?_ | refine AW.seqX ?_ | refine AW.block ?_ | refine AW.skip ?_ | refine AW.exit ?_ | refine AW.ret ?_)))
  all_goals first
    | (fail_if_success (with_reducible refine AW.cnd 25 (b := ?_) ?_ ?_ ?_))
    | (
        refine AW.cnd 25 (by simp only [go_sem, reduceIte, reduceCtorEq, Nat.reduceAdd, Nat.reduceEqDiff, Nat.reduceLeDiff, Nat.reduceLT, Nat.reduceSub, Int.reduceLE, Int.reduceNeg, Int.reduceLT, tsz9, tsz22, tsz27, tfld27, tsz24, tfld24, tel22, toNat_cast, und9, zero27, und4, bne_self_eq_false] <;> rfl) ?_ ?_ <;> intro hc25 <;> try (cases hc25; done)
        all_goals try simp only [decide_eq_true_eq, decide_eq_false_iff_not, Bool.not_eq_true', Bool.not_eq_false', Bool.and_eq_true, Bool.or_eq_true, Bool.or_eq_false_iff, beq_iff_eq, Int.not_le, Int.not_lt, Nat.not_le, Nat.not_lt] at hc25
        all_goals (repeat with_reducible (first | refine EThen_n ?_ | refine EThen_r ?_ | refine EThen_e ?_ | refine EBlock_n ?_ | refine EBlock_r ?_ | refine EBlock_e ?_ | refine EBlock_o (by decide) ?_ | refine AW.seqX ?_ | refine AW.block ?_ | refine AW.skip ?_ | refine AW.exit ?_ | refine AW.ret ?_)))
  all_goals first
    | (fail_if_success (with_reducible refine AW.endR 8 ?_ ?_ ?_ ?_ ?_ ?_ ?_))
    | (
        refine AW.endR 8 [] [some 4] 1 rfl rfl rfl ?_
        intro K hK
        all_goals refine qL_cons ?_
        all_goals (
          intro R hR
          simp only [go_sem, reduceIte, reduceCtorEq, Nat.reduceAdd, Nat.reduceEqDiff, Nat.reduceLeDiff, Nat.reduceLT, Nat.reduceSub, Int.reduceLE, Int.reduceNeg, Int.reduceLT, tsz9, tsz22, tsz27, tfld27, tsz24, tfld24, tel22, toNat_cast, und9, zero27, und4, bne_self_eq_false]
          all_goals (refine hR _ ?_; clear hR; clear R))
        all_goals (refine qL_nil ?_; refine hK _ ?_; clear hK; clear K)
        all_goals (repeat with_reducible (first | refine EThen_n ?_ | refine EThen_r ?_ | refine EThen_e ?_ | refine EBlock_n ?_ | refine EBlock_r ?_ | refine EBlock_e ?_ | refine EBlock_o (by decide) ?_ | refine AW.seqX ?_ | refine AW.block ?_ | refine AW.skip ?_ | refine AW.exit ?_ | refine AW.ret ?_)))
  all_goals first
    | (fail_if_success (with_reducible refine AW.endR 9 ?_ ?_ ?_ ?_ ?_ ?_ ?_))
    | (
        refine AW.endR 9 [] [some 4] 1 rfl rfl rfl ?_
        intro K hK
        all_goals refine qL_cons ?_
        all_goals (
          intro R hR
          simp only [go_sem, reduceIte, reduceCtorEq, Nat.reduceAdd, Nat.reduceEqDiff, Nat.reduceLeDiff, Nat.reduceLT, Nat.reduceSub, Int.reduceLE, Int.reduceNeg, Int.reduceLT, tsz9, tsz22, tsz27, tfld27, tsz24, tfld24, tel22, toNat_cast, und9, zero27, und4, bne_self_eq_false]
          all_goals (refine hR _ ?_; clear hR; clear R))
        all_goals (refine qL_nil ?_; refine hK _ ?_; clear hK; clear K)
        all_goals (repeat with_reducible (first | refine EThen_n ?_ | refine EThen_r ?_ | refine EThen_e ?_ | refine EBlock_n ?_ | refine EBlock_r ?_ | refine EBlock_e ?_ | refine EBlock_o (by decide) ?_ | refine AW.seqX ?_ | refine AW.block ?_ | refine AW.skip ?_ | refine AW.exit ?_ | refine AW.ret ?_)))
  all_goals first
    | (fail_if_success (with_reducible refine ret_fun (t := 4) ?_ ?_))
    | (
        refine ret_fun (t := 4) ?_ (fun _ => rfl)
        simp only [go_sem, reduceIte, reduceCtorEq, Nat.reduceAdd, Nat.reduceEqDiff, Nat.reduceLeDiff, Nat.reduceLT, Nat.reduceSub, Int.reduceLE, Int.reduceNeg, Int.reduceLT, tsz9, tsz22, tsz27, tfld27, tsz24, tfld24, tel22, toNat_cast, und9, zero27, und4, bne_self_eq_false]
        all_goals (simp_all))

theorem law_spec (v : Rv) : Fun Try.prog 3 [.ag [.d (.str v.br), .d (.str v.into), .d (.str v.by_), .d (strs v.yes)]] (.d (.bool true)) := by
  refine Fun.of ?_ rfl rfl
  refine Spec.of (fn := Try.f3) Try.func3 rfl (by kernel_rfl) (rs := [.tmp 2]) rfl 1 (by simp [Try.f3]) rfl (by simp) ?_
  intro hreal
  rintro ⟨P, T, L0, w0, ι0, C0, U0⟩ hP hT hU
  subst hP hT
  repeat with_reducible (first | refine EThen_n ?_ | refine EThen_r ?_ | refine EThen_e ?_ | refine EBlock_n ?_ | refine EBlock_r ?_ | refine EBlock_e ?_ | refine EBlock_o (by decide) ?_ | refine AW.seqX ?_ | refine AW.block ?_ | refine AW.skip ?_ | refine AW.exit ?_ | refine AW.ret ?_)
  all_goals first
    | (fail_if_success (with_reducible refine AW.endR 0 ?_ ?_ ?_ ?_ ?_ ?_ ?_))
    | (
        refine AW.endR 0 [] [some 1, some 2] 2 rfl rfl rfl ?_
        intro K hK
        all_goals refine qL_cons ?_
        all_goals (
          intro R hR
          simp only [go_sem, reduceIte, reduceCtorEq, Nat.reduceAdd, Nat.reduceEqDiff, Nat.reduceLeDiff, Nat.reduceLT, Nat.reduceSub, Int.reduceLE, Int.reduceNeg, Int.reduceLT, tsz9, tsz22, tsz27, tfld27, tsz24, tfld24, tel22, toNat_cast, und9, zero27, und4, bne_self_eq_false, rvT, toS_false]
          all_goals (refine hR _ ?_; clear hR; clear R))
        all_goals refine qL_cons ?_
        all_goals (
          intro R hR
          simp only [go_sem, reduceIte, reduceCtorEq, Nat.reduceAdd, Nat.reduceEqDiff, Nat.reduceLeDiff, Nat.reduceLT, Nat.reduceSub, Int.reduceLE, Int.reduceNeg, Int.reduceLT, tsz9, tsz22, tsz27, tfld27, tsz24, tfld24, tel22, toNat_cast, und9, zero27, und4, bne_self_eq_false, rvT, toS_false]
          all_goals (refine hR _ ?_; clear hR; clear R))
        all_goals (refine qL_nil ?_; refine hK _ ?_; clear hK; clear K)
        all_goals (repeat with_reducible (first | refine EThen_n ?_ | refine EThen_r ?_ | refine EThen_e ?_ | refine EBlock_n ?_ | refine EBlock_r ?_ | refine EBlock_e ?_ | refine EBlock_o (by decide) ?_ | refine AW.seqX ?_ | refine AW.block ?_ | refine AW.skip ?_ | refine AW.exit ?_ | refine AW.ret ?_)))
  all_goals first
    | (fail_if_success (with_reducible refine AW.endR 1 ?_ ?_ ?_ ?_ ?_ ?_ ?_))
    | (
        refine AW.endR 1 [] [some 3] 1 rfl rfl rfl ?_
        intro K hK
        all_goals refine qL_cons ?_
        all_goals (
          intro R hR
          simp only [go_sem, reduceIte, reduceCtorEq, Nat.reduceAdd, Nat.reduceEqDiff, Nat.reduceLeDiff, Nat.reduceLT, Nat.reduceSub, Int.reduceLE, Int.reduceNeg, Int.reduceLT, tsz9, tsz22, tsz27, tfld27, tsz24, tfld24, tel22, toNat_cast, und9, zero27, und4, bne_self_eq_false, rvT, toS_false]
          all_goals (refine hR _ ?_; clear hR; clear R))
        all_goals (refine qL_nil ?_; refine hK _ ?_; clear hK; clear K)
        all_goals (repeat with_reducible (first | refine EThen_n ?_ | refine EThen_r ?_ | refine EThen_e ?_ | refine EBlock_n ?_ | refine EBlock_r ?_ | refine EBlock_e ?_ | refine EBlock_o (by decide) ?_ | refine AW.seqX ?_ | refine AW.block ?_ | refine AW.skip ?_ | refine AW.exit ?_ | refine AW.ret ?_)))
  all_goals first
    | (fail_if_success (with_reducible refine AW.endR 2 ?_ ?_ ?_ ?_ ?_ ?_ ?_))
    | (
        refine AW.endR 2 [] [some 8, some 9, some 10, some 3] 4 rfl rfl rfl ?_
        intro K hK
        all_goals refine qL_cons ?_
        all_goals (
          intro R hR
          simp only [go_sem, reduceIte, reduceCtorEq, Nat.reduceAdd, Nat.reduceEqDiff, Nat.reduceLeDiff, Nat.reduceLT, Nat.reduceSub, Int.reduceLE, Int.reduceNeg, Int.reduceLT, tsz9, tsz22, tsz27, tfld27, tsz24, tfld24, tel22, toNat_cast, und9, zero27, und4, bne_self_eq_false, rvT, toS_false]
          all_goals (refine hR _ ?_; clear hR; clear R))
        all_goals refine qL_cons ?_
        all_goals (
          intro R hR
          simp only [go_sem, reduceIte, reduceCtorEq, Nat.reduceAdd, Nat.reduceEqDiff, Nat.reduceLeDiff, Nat.reduceLT, Nat.reduceSub, Int.reduceLE, Int.reduceNeg, Int.reduceLT, tsz9, tsz22, tsz27, tfld27, tsz24, tfld24, tel22, toNat_cast, und9, zero27, und4, bne_self_eq_false, rvT, toS_false]
          all_goals (refine hR _ ?_; clear hR; clear R))
        all_goals refine qL_cons ?_
        all_goals (
          intro R hR
          simp only [go_sem, reduceIte, reduceCtorEq, Nat.reduceAdd, Nat.reduceEqDiff, Nat.reduceLeDiff, Nat.reduceLT, Nat.reduceSub, Int.reduceLE, Int.reduceNeg, Int.reduceLT, tsz9, tsz22, tsz27, tfld27, tsz24, tfld24, tel22, toNat_cast, und9, zero27, und4, bne_self_eq_false, rvT, toS_false]
          refine call_fun (szReview_spec v 1000000 (by omega) (by omega)) [] ?_ (.inl rfl) ?_
          · exact ⟨.inl rfl, ⟨.inl rfl, trivial⟩⟩
          simp only [go_sem, reduceIte, reduceCtorEq, Nat.reduceAdd, Nat.reduceEqDiff, Nat.reduceLeDiff, Nat.reduceLT, Nat.reduceSub, Int.reduceLE, Int.reduceNeg, Int.reduceLT, tsz9, tsz22, tsz27, tfld27, tsz24, tfld24, tel22, toNat_cast, und9, zero27, und4, bne_self_eq_false, rvT, toS_false]
          all_goals (refine hR _ ?_; clear hR; clear R))
        all_goals refine qL_cons ?_
        all_goals (
          intro R hR
          simp only [go_sem, reduceIte, reduceCtorEq, Nat.reduceAdd, Nat.reduceEqDiff, Nat.reduceLeDiff, Nat.reduceLT, Nat.reduceSub, Int.reduceLE, Int.reduceNeg, Int.reduceLT, tsz9, tsz22, tsz27, tfld27, tsz24, tfld24, tel22, toNat_cast, und9, zero27, und4, bne_self_eq_false, rvT, toS_false]
          all_goals (refine hR _ ?_; clear hR; clear R))
        all_goals (refine qL_nil ?_; refine hK _ ?_; clear hK; clear K)
        all_goals (repeat with_reducible (first | refine EThen_n ?_ | refine EThen_r ?_ | refine EThen_e ?_ | refine EBlock_n ?_ | refine EBlock_r ?_ | refine EBlock_e ?_ | refine EBlock_o (by decide) ?_ | refine AW.seqX ?_ | refine AW.block ?_ | refine AW.skip ?_ | refine AW.exit ?_ | refine AW.ret ?_)))
  all_goals first
    | (fail_if_success (with_reducible refine AW.endR 3 ?_ ?_ ?_ ?_ ?_ ?_ ?_))
    | (
        refine AW.endR 3 [] [some 11, some 12] 2 rfl rfl rfl ?_
        intro K hK
        all_goals refine qL_cons ?_
        all_goals (
          intro R hR
          simp only [go_sem, reduceIte, reduceCtorEq, Nat.reduceAdd, Nat.reduceEqDiff, Nat.reduceLeDiff, Nat.reduceLT, Nat.reduceSub, Int.reduceLE, Int.reduceNeg, Int.reduceLT, tsz9, tsz22, tsz27, tfld27, tsz24, tfld24, tel22, toNat_cast, und9, zero27, und4, bne_self_eq_false, rvT, toS_false]
          all_goals (refine hR _ ?_; clear hR; clear R))
        all_goals refine qL_cons ?_
        all_goals (
          intro R hR
          simp only [go_sem, reduceIte, reduceCtorEq, Nat.reduceAdd, Nat.reduceEqDiff, Nat.reduceLeDiff, Nat.reduceLT, Nat.reduceSub, Int.reduceLE, Int.reduceNeg, Int.reduceLT, tsz9, tsz22, tsz27, tfld27, tsz24, tfld24, tel22, toNat_cast, und9, zero27, und4, bne_self_eq_false, rvT, toS_false]
          all_goals (refine hR _ ?_; clear hR; clear R))
        all_goals (refine qL_nil ?_; refine hK _ ?_; clear hK; clear K)
        all_goals (repeat with_reducible (first | refine EThen_n ?_ | refine EThen_r ?_ | refine EThen_e ?_ | refine EBlock_n ?_ | refine EBlock_r ?_ | refine EBlock_e ?_ | refine EBlock_o (by decide) ?_ | refine AW.seqX ?_ | refine AW.block ?_ | refine AW.skip ?_ | refine AW.exit ?_ | refine AW.ret ?_)))
  all_goals first
    | (fail_if_success (with_reducible refine AW.cnd 12 (b := ?_) ?_ ?_ ?_))
    | (
        refine AW.cnd 12 (by simp only [go_sem, reduceIte, reduceCtorEq, Nat.reduceAdd, Nat.reduceEqDiff, Nat.reduceLeDiff, Nat.reduceLT, Nat.reduceSub, Int.reduceLE, Int.reduceNeg, Int.reduceLT, tsz9, tsz22, tsz27, tfld27, tsz24, tfld24, tel22, toNat_cast, und9, zero27, und4, bne_self_eq_false, rvT, toS_false] <;> rfl) ?_ ?_ <;> intro hc12 <;> try (cases hc12; done)
        all_goals try simp only [decide_eq_true_eq, decide_eq_false_iff_not, Bool.not_eq_true', Bool.not_eq_false', Bool.and_eq_true, Bool.or_eq_true, Bool.or_eq_false_iff, beq_iff_eq, Int.not_le, Int.not_lt, Nat.not_le, Nat.not_lt] at hc12
        all_goals (repeat with_reducible (first | refine EThen_n ?_ | refine EThen_r ?_ | refine EThen_e ?_ | refine EBlock_n ?_ | refine EBlock_r ?_ | refine EBlock_e ?_ | refine EBlock_o (by decide) ?_ | refine AW.seqX ?_ | refine AW.block ?_ | refine AW.skip ?_ | refine AW.exit ?_ | refine AW.ret ?_)))
  all_goals first
    | (fail_if_success (with_reducible refine AW.endR 4 ?_ ?_ ?_ ?_ ?_ ?_ ?_))
    | (
        refine AW.endR 4 [] [some 2] 1 rfl rfl rfl ?_
        intro K hK
        all_goals refine qL_cons ?_
        all_goals (
          intro R hR
          simp only [go_sem, reduceIte, reduceCtorEq, Nat.reduceAdd, Nat.reduceEqDiff, Nat.reduceLeDiff, Nat.reduceLT, Nat.reduceSub, Int.reduceLE, Int.reduceNeg, Int.reduceLT, tsz9, tsz22, tsz27, tfld27, tsz24, tfld24, tel22, toNat_cast, und9, zero27, und4, bne_self_eq_false, rvT, toS_false]
          all_goals (refine hR _ ?_; clear hR; clear R))
        all_goals (refine qL_nil ?_; refine hK _ ?_; clear hK; clear K)
        all_goals (repeat with_reducible (first | refine EThen_n ?_ | refine EThen_r ?_ | refine EThen_e ?_ | refine EBlock_n ?_ | refine EBlock_r ?_ | refine EBlock_e ?_ | refine EBlock_o (by decide) ?_ | refine AW.seqX ?_ | refine AW.block ?_ | refine AW.skip ?_ | refine AW.exit ?_ | refine AW.ret ?_)))
  all_goals first
    | (fail_if_success (with_reducible refine ret_fun (t := 2) ?_ ?_))
    | (
        refine ret_fun (t := 2) ?_ (fun _ => rfl)
        simp only [go_sem, reduceIte, reduceCtorEq, Nat.reduceAdd, Nat.reduceEqDiff, Nat.reduceLeDiff, Nat.reduceLT, Nat.reduceSub, Int.reduceLE, Int.reduceNeg, Int.reduceLT, tsz9, tsz22, tsz27, tfld27, tsz24, tfld24, tel22, toNat_cast, und9, zero27, und4, bne_self_eq_false, rvT, toS_false]
        all_goals (rfl))
  have hv : v.yes.length ≤ 1000000 := szRv_len (by omega) (by omega) hc12
  all_goals first
    | (fail_if_success (with_reducible refine AW.endR 5 ?_ ?_ ?_ ?_ ?_ ?_ ?_))
    | (
        refine AW.endR 5 [] [some 13, some 14, some 15, some 4] 4 rfl rfl rfl ?_
        intro K hK
        all_goals refine qL_cons ?_
        all_goals (
          intro R hR
          simp only [go_sem, reduceIte, reduceCtorEq, Nat.reduceAdd, Nat.reduceEqDiff, Nat.reduceLeDiff, Nat.reduceLT, Nat.reduceSub, Int.reduceLE, Int.reduceNeg, Int.reduceLT, tsz9, tsz22, tsz27, tfld27, tsz24, tfld24, tel22, toNat_cast, und9, zero27, und4, bne_self_eq_false, rvT, toS_false]
          all_goals (refine hR _ ?_; clear hR; clear R))
        all_goals refine qL_cons ?_
        all_goals (
          intro R hR
          simp only [go_sem, reduceIte, reduceCtorEq, Nat.reduceAdd, Nat.reduceEqDiff, Nat.reduceLeDiff, Nat.reduceLT, Nat.reduceSub, Int.reduceLE, Int.reduceNeg, Int.reduceLT, tsz9, tsz22, tsz27, tfld27, tsz24, tfld24, tel22, toNat_cast, und9, zero27, und4, bne_self_eq_false, rvT, toS_false]
          refine call_fun (toReview_spec v false hv) [] ?_ (.inl rfl) ?_
          · exact ⟨.inl rfl, ⟨.inl rfl, trivial⟩⟩
          simp only [go_sem, reduceIte, reduceCtorEq, Nat.reduceAdd, Nat.reduceEqDiff, Nat.reduceLeDiff, Nat.reduceLT, Nat.reduceSub, Int.reduceLE, Int.reduceNeg, Int.reduceLT, tsz9, tsz22, tsz27, tfld27, tsz24, tfld24, tel22, toNat_cast, und9, zero27, und4, bne_self_eq_false, rvT, toS_false]
          all_goals (refine hR _ ?_; clear hR; clear R))
        all_goals refine qL_cons ?_
        all_goals (
          intro R hR
          simp only [go_sem, reduceIte, reduceCtorEq, Nat.reduceAdd, Nat.reduceEqDiff, Nat.reduceLeDiff, Nat.reduceLT, Nat.reduceSub, Int.reduceLE, Int.reduceNeg, Int.reduceLT, tsz9, tsz22, tsz27, tfld27, tsz24, tfld24, tel22, toNat_cast, und9, zero27, und4, bne_self_eq_false, rvT, toS_false]
          refine call_fun (specReviewOk v) [] ?_ (.inl rfl) ?_
          · exact ⟨.inr (rvT_bare v false).symm, trivial⟩
          simp only [go_sem, reduceIte, reduceCtorEq, Nat.reduceAdd, Nat.reduceEqDiff, Nat.reduceLeDiff, Nat.reduceLT, Nat.reduceSub, Int.reduceLE, Int.reduceNeg, Int.reduceLT, tsz9, tsz22, tsz27, tfld27, tsz24, tfld24, tel22, toNat_cast, und9, zero27, und4, bne_self_eq_false, rvT, toS_false]
          all_goals (refine hR _ ?_; clear hR; clear R))
        all_goals refine qL_cons ?_
        all_goals (
          intro R hR
          simp only [go_sem, reduceIte, reduceCtorEq, Nat.reduceAdd, Nat.reduceEqDiff, Nat.reduceLeDiff, Nat.reduceLT, Nat.reduceSub, Int.reduceLE, Int.reduceNeg, Int.reduceLT, tsz9, tsz22, tsz27, tfld27, tsz24, tfld24, tel22, toNat_cast, und9, zero27, und4, bne_self_eq_false, rvT, toS_false]
          all_goals (refine hR _ ?_; clear hR; clear R))
        all_goals (refine qL_nil ?_; refine hK _ ?_; clear hK; clear K)
        all_goals (repeat with_reducible (first | refine EThen_n ?_ | refine EThen_r ?_ | refine EThen_e ?_ | refine EBlock_n ?_ | refine EBlock_r ?_ | refine EBlock_e ?_ | refine EBlock_o (by decide) ?_ | refine AW.seqX ?_ | refine AW.block ?_ | refine AW.skip ?_ | refine AW.exit ?_ | refine AW.ret ?_)))
  all_goals first
    | (fail_if_success (with_reducible refine AW.endR 6 ?_ ?_ ?_ ?_ ?_ ?_ ?_))
    | (
        refine AW.endR 6 [] [some 16, some 17, some 5, none] 4 rfl rfl rfl ?_
        intro K hK
        all_goals refine qL_cons ?_
        all_goals (
          intro R hR
          simp only [go_sem, reduceIte, reduceCtorEq, Nat.reduceAdd, Nat.reduceEqDiff, Nat.reduceLeDiff, Nat.reduceLT, Nat.reduceSub, Int.reduceLE, Int.reduceNeg, Int.reduceLT, tsz9, tsz22, tsz27, tfld27, tsz24, tfld24, tel22, toNat_cast, und9, zero27, und4, bne_self_eq_false, rvT, toS_false]
          all_goals (refine hR _ ?_; clear hR; clear R))
        all_goals refine qL_cons ?_
        all_goals (
          intro R hR
          simp only [go_sem, reduceIte, reduceCtorEq, Nat.reduceAdd, Nat.reduceEqDiff, Nat.reduceLeDiff, Nat.reduceLT, Nat.reduceSub, Int.reduceLE, Int.reduceNeg, Int.reduceLT, tsz9, tsz22, tsz27, tfld27, tsz24, tfld24, tel22, toNat_cast, und9, zero27, und4, bne_self_eq_false, rvT, toS_false]
          refine call_fun (toReview_spec v false hv) [] ?_ (.inl rfl) ?_
          · exact ⟨.inl rfl, ⟨.inl rfl, trivial⟩⟩
          simp only [go_sem, reduceIte, reduceCtorEq, Nat.reduceAdd, Nat.reduceEqDiff, Nat.reduceLeDiff, Nat.reduceLT, Nat.reduceSub, Int.reduceLE, Int.reduceNeg, Int.reduceLT, tsz9, tsz22, tsz27, tfld27, tsz24, tfld24, tel22, toNat_cast, und9, zero27, und4, bne_self_eq_false, rvT, toS_false]
          all_goals (refine hR _ ?_; clear hR; clear R))
        all_goals refine qL_cons ?_
        all_goals (
          intro R hR
          simp only [go_sem, reduceIte, reduceCtorEq, Nat.reduceAdd, Nat.reduceEqDiff, Nat.reduceLeDiff, Nat.reduceLT, Nat.reduceSub, Int.reduceLE, Int.reduceNeg, Int.reduceLT, tsz9, tsz22, tsz27, tfld27, tsz24, tfld24, tel22, toNat_cast, und9, zero27, und4, bne_self_eq_false, rvT, toS_false]
          all_goals (refine hR _ ?_; clear hR; clear R))
        all_goals refine qL_cons ?_
        all_goals (
          intro R hR
          simp only [go_sem, reduceIte, reduceCtorEq, Nat.reduceAdd, Nat.reduceEqDiff, Nat.reduceLeDiff, Nat.reduceLT, Nat.reduceSub, Int.reduceLE, Int.reduceNeg, Int.reduceLT, tsz9, tsz22, tsz27, tfld27, tsz24, tfld24, tel22, toNat_cast, und9, zero27, und4, bne_self_eq_false, rvT, toS_false]
          all_goals (refine hR _ ?_; clear hR; clear R))
        all_goals (refine qL_nil ?_; refine hK _ ?_; clear hK; clear K)
        all_goals (repeat with_reducible (first | refine EThen_n ?_ | refine EThen_r ?_ | refine EThen_e ?_ | refine EBlock_n ?_ | refine EBlock_r ?_ | refine EBlock_e ?_ | refine EBlock_o (by decide) ?_ | refine AW.seqX ?_ | refine AW.block ?_ | refine AW.skip ?_ | refine AW.exit ?_ | refine AW.ret ?_)))
  all_goals first
    | (fail_if_success (with_reducible refine AW.endR 7 ?_ ?_ ?_ ?_ ?_ ?_ ?_))
    | (
        refine AW.endR 7 [] [some 18, some 19, some 6] 3 rfl rfl rfl ?_
        intro K hK
        all_goals refine qL_cons ?_
        all_goals (
          intro R hR
          simp only [go_sem, reduceIte, reduceCtorEq, Nat.reduceAdd, Nat.reduceEqDiff, Nat.reduceLeDiff, Nat.reduceLT, Nat.reduceSub, Int.reduceLE, Int.reduceNeg, Int.reduceLT, tsz9, tsz22, tsz27, tfld27, tsz24, tfld24, tel22, toNat_cast, und9, zero27, und4, bne_self_eq_false, rvT, toS_false]
          all_goals (refine hR _ ?_; clear hR; clear R))
        all_goals refine qL_cons ?_
        all_goals (
          intro R hR
          simp only [go_sem, reduceIte, reduceCtorEq, Nat.reduceAdd, Nat.reduceEqDiff, Nat.reduceLeDiff, Nat.reduceLT, Nat.reduceSub, Int.reduceLE, Int.reduceNeg, Int.reduceLT, tsz9, tsz22, tsz27, tfld27, tsz24, tfld24, tel22, toNat_cast, und9, zero27, und4, bne_self_eq_false, rvT, toS_false]
          refine call_fun (implReviewOk v) [] ?_ (.inl rfl) ?_
          · exact ⟨.inr (rvT_bare v false).symm, trivial⟩
          simp only [go_sem, reduceIte, reduceCtorEq, Nat.reduceAdd, Nat.reduceEqDiff, Nat.reduceLeDiff, Nat.reduceLT, Nat.reduceSub, Int.reduceLE, Int.reduceNeg, Int.reduceLT, tsz9, tsz22, tsz27, tfld27, tsz24, tfld24, tel22, toNat_cast, und9, zero27, und4, bne_self_eq_false, rvT, toS_false]
          all_goals (refine hR _ ?_; clear hR; clear R))
        all_goals refine qL_cons ?_
        all_goals (
          intro R hR
          simp only [go_sem, reduceIte, reduceCtorEq, Nat.reduceAdd, Nat.reduceEqDiff, Nat.reduceLeDiff, Nat.reduceLT, Nat.reduceSub, Int.reduceLE, Int.reduceNeg, Int.reduceLT, tsz9, tsz22, tsz27, tfld27, tsz24, tfld24, tel22, toNat_cast, und9, zero27, und4, bne_self_eq_false, rvT, toS_false]
          all_goals (refine hR _ ?_; clear hR; clear R))
        all_goals (refine qL_nil ?_; refine hK _ ?_; clear hK; clear K)
        all_goals (repeat with_reducible (first | refine EThen_n ?_ | refine EThen_r ?_ | refine EThen_e ?_ | refine EBlock_n ?_ | refine EBlock_r ?_ | refine EBlock_e ?_ | refine EBlock_o (by decide) ?_ | refine AW.seqX ?_ | refine AW.block ?_ | refine AW.skip ?_ | refine AW.exit ?_ | refine AW.ret ?_)))
  all_goals first
    | (fail_if_success (with_reducible refine AW.endR 8 ?_ ?_ ?_ ?_ ?_ ?_ ?_))
    | (
        refine AW.endR 8 [] [some 20, some 21, some 22] 3 rfl rfl rfl ?_
        intro K hK
        all_goals refine qL_cons ?_
        all_goals (
          intro R hR
          simp only [go_sem, reduceIte, reduceCtorEq, Nat.reduceAdd, Nat.reduceEqDiff, Nat.reduceLeDiff, Nat.reduceLT, Nat.reduceSub, Int.reduceLE, Int.reduceNeg, Int.reduceLT, tsz9, tsz22, tsz27, tfld27, tsz24, tfld24, tel22, toNat_cast, und9, zero27, und4, bne_self_eq_false, rvT, toS_false]
          all_goals (refine hR _ ?_; clear hR; clear R))
        all_goals refine qL_cons ?_
        all_goals (
          intro R hR
          simp only [go_sem, reduceIte, reduceCtorEq, Nat.reduceAdd, Nat.reduceEqDiff, Nat.reduceLeDiff, Nat.reduceLT, Nat.reduceSub, Int.reduceLE, Int.reduceNeg, Int.reduceLT, tsz9, tsz22, tsz27, tfld27, tsz24, tfld24, tel22, toNat_cast, und9, zero27, und4, bne_self_eq_false, rvT, toS_false]
          all_goals (refine hR _ ?_; clear hR; clear R))
        all_goals refine qL_cons ?_
        all_goals (
          intro R hR
          simp only [go_sem, reduceIte, reduceCtorEq, Nat.reduceAdd, Nat.reduceEqDiff, Nat.reduceLeDiff, Nat.reduceLT, Nat.reduceSub, Int.reduceLE, Int.reduceNeg, Int.reduceLT, tsz9, tsz22, tsz27, tfld27, tsz24, tfld24, tel22, toNat_cast, und9, zero27, und4, bne_self_eq_false, rvT, toS_false]
          all_goals (refine hR _ ?_; clear hR; clear R))
        all_goals (refine qL_nil ?_; refine hK _ ?_; clear hK; clear K)
        all_goals (repeat with_reducible (first | refine EThen_n ?_ | refine EThen_r ?_ | refine EThen_e ?_ | refine EBlock_n ?_ | refine EBlock_r ?_ | refine EBlock_e ?_ | refine EBlock_o (by decide) ?_ | refine AW.seqX ?_ | refine AW.block ?_ | refine AW.skip ?_ | refine AW.exit ?_ | refine AW.ret ?_)))
  all_goals first
    | (fail_if_success (with_reducible refine AW.cnd 22 (b := ?_) ?_ ?_ ?_))
    | (
        refine AW.cnd 22 (by simp only [go_sem, reduceIte, reduceCtorEq, Nat.reduceAdd, Nat.reduceEqDiff, Nat.reduceLeDiff, Nat.reduceLT, Nat.reduceSub, Int.reduceLE, Int.reduceNeg, Int.reduceLT, tsz9, tsz22, tsz27, tfld27, tsz24, tfld24, tel22, toNat_cast, und9, zero27, und4, bne_self_eq_false, rvT, toS_false] <;> rfl) ?_ ?_ <;> intro hc22 <;> try (cases hc22; done)
        all_goals try simp only [decide_eq_true_eq, decide_eq_false_iff_not, Bool.not_eq_true', Bool.not_eq_false', Bool.and_eq_true, Bool.or_eq_true, Bool.or_eq_false_iff, beq_iff_eq, Int.not_le, Int.not_lt, Nat.not_le, Nat.not_lt] at hc22
        all_goals (repeat with_reducible (first | refine EThen_n ?_ | refine EThen_r ?_ | refine EThen_e ?_ | refine EBlock_n ?_ | refine EBlock_r ?_ | refine EBlock_e ?_ | refine EBlock_o (by decide) ?_ | refine AW.seqX ?_ | refine AW.block ?_ | refine AW.skip ?_ | refine AW.exit ?_ | refine AW.ret ?_)))
  all_goals first
    | (fail_if_success (with_reducible refine AW.endR 9 ?_ ?_ ?_ ?_ ?_ ?_ ?_))
    | (
        refine AW.endR 9 [] [some 2] 1 rfl rfl rfl ?_
        intro K hK
        all_goals refine qL_cons ?_
        all_goals (
          intro R hR
          simp only [go_sem, reduceIte, reduceCtorEq, Nat.reduceAdd, Nat.reduceEqDiff, Nat.reduceLeDiff, Nat.reduceLT, Nat.reduceSub, Int.reduceLE, Int.reduceNeg, Int.reduceLT, tsz9, tsz22, tsz27, tfld27, tsz24, tfld24, tel22, toNat_cast, und9, zero27, und4, bne_self_eq_false, rvT, toS_false]
          all_goals (refine hR _ ?_; clear hR; clear R))
        all_goals (refine qL_nil ?_; refine hK _ ?_; clear hK; clear K)
        all_goals (repeat with_reducible (first | refine EThen_n ?_ | refine EThen_r ?_ | refine EThen_e ?_ | refine EBlock_n ?_ | refine EBlock_r ?_ | refine EBlock_e ?_ | refine EBlock_o (by decide) ?_ | refine AW.seqX ?_ | refine AW.block ?_ | refine AW.skip ?_ | refine AW.exit ?_ | refine AW.ret ?_)))
  all_goals first
    | (fail_if_success (with_reducible refine AW.endD 10 ?_ ?_ ?_ ?_ ?_ ?_ ?_ ?_ ?_ ?_ ?_))
    | (
        refine AW.endD 10 [] [some 23, some 24, some 25, some 26, some 27] 5 6 (fun _ => []) rfl rfl (by kernel_rfl) rfl (by kernel_rfl) ?_
        intro K hK av hav
        have hf1 : ∀ i, av i 1 = False := fun i => eq_false (by rw [hav]; exact avO_free (fun _ => by simp) (by decide))
        have hf16 : ∀ i, av i 16 = False := fun i => eq_false (by rw [hav]; exact avO_free (fun _ => by simp) (by decide))
        all_goals refine qL_cons ?_
        all_goals (
          intro R hR
          simp only [go_sem, reduceIte, reduceCtorEq, Nat.reduceAdd, Nat.reduceEqDiff, Nat.reduceLeDiff, Nat.reduceLT, Nat.reduceSub, Int.reduceLE, Int.reduceNeg, Int.reduceLT, tsz9, tsz22, tsz27, tfld27, tsz24, tfld24, tel22, toNat_cast, und9, zero27, und4, bne_self_eq_false, rvT, toS_false, hf1, hf16]
          all_goals (refine hR _ ?_; clear hR; clear R))
        all_goals refine qL_cons ?_
        all_goals (
          intro R hR
          simp only [go_sem, reduceIte, reduceCtorEq, Nat.reduceAdd, Nat.reduceEqDiff, Nat.reduceLeDiff, Nat.reduceLT, Nat.reduceSub, Int.reduceLE, Int.reduceNeg, Int.reduceLT, tsz9, tsz22, tsz27, tfld27, tsz24, tfld24, tel22, toNat_cast, und9, zero27, und4, bne_self_eq_false, rvT, toS_false, hf1, hf16]
          all_goals (refine hR _ ?_; clear hR; clear R))
        all_goals refine qL_cons ?_
        all_goals (
          intro R hR
          simp only [go_sem, reduceIte, reduceCtorEq, Nat.reduceAdd, Nat.reduceEqDiff, Nat.reduceLeDiff, Nat.reduceLT, Nat.reduceSub, Int.reduceLE, Int.reduceNeg, Int.reduceLT, tsz9, tsz22, tsz27, tfld27, tsz24, tfld24, tel22, toNat_cast, und9, zero27, und4, bne_self_eq_false, rvT, toS_false]
          refine call_fun (toReview_spec v false hv) [] ?_ (.inl rfl) ?_
          · exact ⟨.inl rfl, ⟨.inl rfl, trivial⟩⟩
          simp only [go_sem, reduceIte, reduceCtorEq, Nat.reduceAdd, Nat.reduceEqDiff, Nat.reduceLeDiff, Nat.reduceLT, Nat.reduceSub, Int.reduceLE, Int.reduceNeg, Int.reduceLT, tsz9, tsz22, tsz27, tfld27, tsz24, tfld24, tel22, toNat_cast, und9, zero27, und4, bne_self_eq_false, rvT, toS_false]
          all_goals (refine hR _ ?_; clear hR; clear R))
        all_goals refine qL_cons ?_
        all_goals (
          intro R hR
          simp only [go_sem, reduceIte, reduceCtorEq, Nat.reduceAdd, Nat.reduceEqDiff, Nat.reduceLeDiff, Nat.reduceLT, Nat.reduceSub, Int.reduceLE, Int.reduceNeg, Int.reduceLT, tsz9, tsz22, tsz27, tfld27, tsz24, tfld24, tel22, toNat_cast, und9, zero27, und4, bne_self_eq_false, rvT, toS_false]
          refine call_fun (intactReview_spec v hv) [] ?_ (.inl rfl) ?_
          · exact ⟨.inl rfl, ⟨.inl rfl, trivial⟩⟩
          simp only [go_sem, reduceIte, reduceCtorEq, Nat.reduceAdd, Nat.reduceEqDiff, Nat.reduceLeDiff, Nat.reduceLT, Nat.reduceSub, Int.reduceLE, Int.reduceNeg, Int.reduceLT, tsz9, tsz22, tsz27, tfld27, tsz24, tfld24, tel22, toNat_cast, und9, zero27, und4, bne_self_eq_false, rvT, toS_false]
          all_goals (refine hR _ ?_; clear hR; clear R))
        all_goals refine qL_cons ?_
        all_goals (
          intro R hR
          simp only [go_sem, reduceIte, reduceCtorEq, Nat.reduceAdd, Nat.reduceEqDiff, Nat.reduceLeDiff, Nat.reduceLT, Nat.reduceSub, Int.reduceLE, Int.reduceNeg, Int.reduceLT, tsz9, tsz22, tsz27, tfld27, tsz24, tfld24, tel22, toNat_cast, und9, zero27, und4, bne_self_eq_false, rvT, toS_false, hf1, hf16]
          all_goals (refine hR _ ?_; clear hR; clear R))
        all_goals (refine qL_nil ?_; refine hK _ ?_; clear hK; clear K)
        all_goals (repeat with_reducible (first | refine EThen_n ?_ | refine EThen_r ?_ | refine EThen_e ?_ | refine EBlock_n ?_ | refine EBlock_r ?_ | refine EBlock_e ?_ | refine EBlock_o (by decide) ?_ | refine AW.seqX ?_ | refine AW.block ?_ | refine AW.skip ?_ | refine AW.exit ?_ | refine AW.ret ?_)))
  all_goals first
    | (fail_if_success (with_reducible refine AW.cnd 27 (b := ?_) ?_ ?_ ?_))
    | (
        refine AW.cnd 27 (by simp only [go_sem, reduceIte, reduceCtorEq, Nat.reduceAdd, Nat.reduceEqDiff, Nat.reduceLeDiff, Nat.reduceLT, Nat.reduceSub, Int.reduceLE, Int.reduceNeg, Int.reduceLT, tsz9, tsz22, tsz27, tfld27, tsz24, tfld24, tel22, toNat_cast, und9, zero27, und4, bne_self_eq_false, rvT, toS_false] <;> rfl) ?_ ?_ <;> intro hc27 <;> try (cases hc27; done)
        all_goals try simp only [decide_eq_true_eq, decide_eq_false_iff_not, Bool.not_eq_true', Bool.not_eq_false', Bool.and_eq_true, Bool.or_eq_true, Bool.or_eq_false_iff, beq_iff_eq, Int.not_le, Int.not_lt, Nat.not_le, Nat.not_lt] at hc27
        all_goals (repeat with_reducible (first | refine EThen_n ?_ | refine EThen_r ?_ | refine EThen_e ?_ | refine EBlock_n ?_ | refine EBlock_r ?_ | refine EBlock_e ?_ | refine EBlock_o (by decide) ?_ | refine AW.seqX ?_ | refine AW.block ?_ | refine AW.skip ?_ | refine AW.exit ?_ | refine AW.ret ?_)))
  all_goals first
    | (fail_if_success (with_reducible refine AW.endR 11 ?_ ?_ ?_ ?_ ?_ ?_ ?_))
    | (
        refine AW.endR 11 [] [some 2] 1 rfl rfl rfl ?_
        intro K hK
        all_goals refine qL_cons ?_
        all_goals (
          intro R hR
          simp only [go_sem, reduceIte, reduceCtorEq, Nat.reduceAdd, Nat.reduceEqDiff, Nat.reduceLeDiff, Nat.reduceLT, Nat.reduceSub, Int.reduceLE, Int.reduceNeg, Int.reduceLT, tsz9, tsz22, tsz27, tfld27, tsz24, tfld24, tel22, toNat_cast, und9, zero27, und4, bne_self_eq_false, rvT, toS_false]
          all_goals (refine hR _ ?_; clear hR; clear R))
        all_goals (refine qL_nil ?_; refine hK _ ?_; clear hK; clear K)
        all_goals (repeat with_reducible (first | refine EThen_n ?_ | refine EThen_r ?_ | refine EThen_e ?_ | refine EBlock_n ?_ | refine EBlock_r ?_ | refine EBlock_e ?_ | refine EBlock_o (by decide) ?_ | refine AW.seqX ?_ | refine AW.block ?_ | refine AW.skip ?_ | refine AW.exit ?_ | refine AW.ret ?_)))
  all_goals first
    | (fail_if_success (with_reducible refine AW.endR 12 ?_ ?_ ?_ ?_ ?_ ?_ ?_))
    | (
        refine AW.endR 12 [] [some 28, some 29, some 30, some 7] 4 rfl rfl rfl ?_
        intro K hK
        all_goals refine qL_cons ?_
        all_goals (
          intro R hR
          simp only [go_sem, reduceIte, reduceCtorEq, Nat.reduceAdd, Nat.reduceEqDiff, Nat.reduceLeDiff, Nat.reduceLT, Nat.reduceSub, Int.reduceLE, Int.reduceNeg, Int.reduceLT, tsz9, tsz22, tsz27, tfld27, tsz24, tfld24, tel22, toNat_cast, und9, zero27, und4, bne_self_eq_false]
          all_goals (refine hR _ ?_; clear hR; clear R))
        all_goals refine qL_cons ?_
        all_goals (
          intro R hR
          simp only [go_sem, reduceIte, reduceCtorEq, Nat.reduceAdd, Nat.reduceEqDiff, Nat.reduceLeDiff, Nat.reduceLT, Nat.reduceSub, Int.reduceLE, Int.reduceNeg, Int.reduceLT, tsz9, tsz22, tsz27, tfld27, tsz24, tfld24, tel22, toNat_cast, und9, zero27, und4, bne_self_eq_false]
          refine call_fun (toReview_spec v true hv) [] ?_ (.inl rfl) ?_
          · exact ⟨.inl rfl, ⟨.inl rfl, trivial⟩⟩
          simp only [go_sem, reduceIte, reduceCtorEq, Nat.reduceAdd, Nat.reduceEqDiff, Nat.reduceLeDiff, Nat.reduceLT, Nat.reduceSub, Int.reduceLE, Int.reduceNeg, Int.reduceLT, tsz9, tsz22, tsz27, tfld27, tsz24, tfld24, tel22, toNat_cast, und9, zero27, und4, bne_self_eq_false]
          all_goals (refine hR _ ?_; clear hR; clear R))
        all_goals refine qL_cons ?_
        all_goals (
          intro R hR
          simp only [go_sem, reduceIte, reduceCtorEq, Nat.reduceAdd, Nat.reduceEqDiff, Nat.reduceLeDiff, Nat.reduceLT, Nat.reduceSub, Int.reduceLE, Int.reduceNeg, Int.reduceLT, tsz9, tsz22, tsz27, tfld27, tsz24, tfld24, tel22, toNat_cast, und9, zero27, und4, bne_self_eq_false]
          refine call_fun (implReviewOk v) [] ?_ (.inl rfl) ?_
          · exact ⟨.inr (rvT_bare v true).symm, trivial⟩
          simp only [go_sem, reduceIte, reduceCtorEq, Nat.reduceAdd, Nat.reduceEqDiff, Nat.reduceLeDiff, Nat.reduceLT, Nat.reduceSub, Int.reduceLE, Int.reduceNeg, Int.reduceLT, tsz9, tsz22, tsz27, tfld27, tsz24, tfld24, tel22, toNat_cast, und9, zero27, und4, bne_self_eq_false]
          all_goals (refine hR _ ?_; clear hR; clear R))
        all_goals refine qL_cons ?_
        all_goals (
          intro R hR
          simp only [go_sem, reduceIte, reduceCtorEq, Nat.reduceAdd, Nat.reduceEqDiff, Nat.reduceLeDiff, Nat.reduceLT, Nat.reduceSub, Int.reduceLE, Int.reduceNeg, Int.reduceLT, tsz9, tsz22, tsz27, tfld27, tsz24, tfld24, tel22, toNat_cast, und9, zero27, und4, bne_self_eq_false]
          all_goals (refine hR _ ?_; clear hR; clear R))
        all_goals (refine qL_nil ?_; refine hK _ ?_; clear hK; clear K)
        all_goals (repeat with_reducible (first | refine EThen_n ?_ | refine EThen_r ?_ | refine EThen_e ?_ | refine EBlock_n ?_ | refine EBlock_r ?_ | refine EBlock_e ?_ | refine EBlock_o (by decide) ?_ | refine AW.seqX ?_ | refine AW.block ?_ | refine AW.skip ?_ | refine AW.exit ?_ | refine AW.ret ?_)))
  all_goals first
    | (fail_if_success (with_reducible refine AW.endR 13 ?_ ?_ ?_ ?_ ?_ ?_ ?_))
    | (
        refine AW.endR 13 [] [some 31, some 32, some 33] 3 rfl rfl rfl ?_
        intro K hK
        all_goals refine qL_cons ?_
        all_goals (
          intro R hR
          simp only [go_sem, reduceIte, reduceCtorEq, Nat.reduceAdd, Nat.reduceEqDiff, Nat.reduceLeDiff, Nat.reduceLT, Nat.reduceSub, Int.reduceLE, Int.reduceNeg, Int.reduceLT, tsz9, tsz22, tsz27, tfld27, tsz24, tfld24, tel22, toNat_cast, und9, zero27, und4, bne_self_eq_false, rvT, toS_false]
          all_goals (refine hR _ ?_; clear hR; clear R))
        all_goals refine qL_cons ?_
        all_goals (
          intro R hR
          simp only [go_sem, reduceIte, reduceCtorEq, Nat.reduceAdd, Nat.reduceEqDiff, Nat.reduceLeDiff, Nat.reduceLT, Nat.reduceSub, Int.reduceLE, Int.reduceNeg, Int.reduceLT, tsz9, tsz22, tsz27, tfld27, tsz24, tfld24, tel22, toNat_cast, und9, zero27, und4, bne_self_eq_false, rvT, toS_false]
          all_goals (refine hR _ ?_; clear hR; clear R))
        all_goals refine qL_cons ?_
        all_goals (
          intro R hR
          simp only [go_sem, reduceIte, reduceCtorEq, Nat.reduceAdd, Nat.reduceEqDiff, Nat.reduceLeDiff, Nat.reduceLT, Nat.reduceSub, Int.reduceLE, Int.reduceNeg, Int.reduceLT, tsz9, tsz22, tsz27, tfld27, tsz24, tfld24, tel22, toNat_cast, und9, zero27, und4, bne_self_eq_false, rvT, toS_false]
          all_goals (refine hR _ ?_; clear hR; clear R))
        all_goals (refine qL_nil ?_; refine hK _ ?_; clear hK; clear K)
        all_goals (repeat with_reducible (first | refine EThen_n ?_ | refine EThen_r ?_ | refine EThen_e ?_ | refine EBlock_n ?_ | refine EBlock_r ?_ | refine EBlock_e ?_ | refine EBlock_o (by decide) ?_ | refine AW.seqX ?_ | refine AW.block ?_ | refine AW.skip ?_ | refine AW.exit ?_ | refine AW.ret ?_)))
  all_goals first
    | (fail_if_success (with_reducible refine AW.cnd 33 (b := ?_) ?_ ?_ ?_))
    | (
        refine AW.cnd 33 (by simp only [go_sem, reduceIte, reduceCtorEq, Nat.reduceAdd, Nat.reduceEqDiff, Nat.reduceLeDiff, Nat.reduceLT, Nat.reduceSub, Int.reduceLE, Int.reduceNeg, Int.reduceLT, tsz9, tsz22, tsz27, tfld27, tsz24, tfld24, tel22, toNat_cast, und9, zero27, und4, bne_self_eq_false, rvT, toS_false] <;> rfl) ?_ ?_ <;> intro hc33 <;> try (cases hc33; done)
        all_goals try simp only [decide_eq_true_eq, decide_eq_false_iff_not, Bool.not_eq_true', Bool.not_eq_false', Bool.and_eq_true, Bool.or_eq_true, Bool.or_eq_false_iff, beq_iff_eq, Int.not_le, Int.not_lt, Nat.not_le, Nat.not_lt] at hc33
        all_goals (repeat with_reducible (first | refine EThen_n ?_ | refine EThen_r ?_ | refine EThen_e ?_ | refine EBlock_n ?_ | refine EBlock_r ?_ | refine EBlock_e ?_ | refine EBlock_o (by decide) ?_ | refine AW.seqX ?_ | refine AW.block ?_ | refine AW.skip ?_ | refine AW.exit ?_ | refine AW.ret ?_)))
  all_goals first
    | (fail_if_success (with_reducible refine AW.endR 14 ?_ ?_ ?_ ?_ ?_ ?_ ?_))
    | (
        refine AW.endR 14 [] [some 2] 1 rfl rfl rfl ?_
        intro K hK
        all_goals refine qL_cons ?_
        all_goals (
          intro R hR
          simp only [go_sem, reduceIte, reduceCtorEq, Nat.reduceAdd, Nat.reduceEqDiff, Nat.reduceLeDiff, Nat.reduceLT, Nat.reduceSub, Int.reduceLE, Int.reduceNeg, Int.reduceLT, tsz9, tsz22, tsz27, tfld27, tsz24, tfld24, tel22, toNat_cast, und9, zero27, und4, bne_self_eq_false, rvT, toS_false]
          all_goals (refine hR _ ?_; clear hR; clear R))
        all_goals (refine qL_nil ?_; refine hK _ ?_; clear hK; clear K)
        all_goals (repeat with_reducible (first | refine EThen_n ?_ | refine EThen_r ?_ | refine EThen_e ?_ | refine EBlock_n ?_ | refine EBlock_r ?_ | refine EBlock_e ?_ | refine EBlock_o (by decide) ?_ | refine AW.seqX ?_ | refine AW.block ?_ | refine AW.skip ?_ | refine AW.exit ?_ | refine AW.ret ?_)))
  all_goals first
    | (fail_if_success (with_reducible refine AW.endR 15 ?_ ?_ ?_ ?_ ?_ ?_ ?_))
    | (
        refine AW.endR 15 [] [some 2] 1 rfl rfl rfl ?_
        intro K hK
        all_goals refine qL_cons ?_
        all_goals (
          intro R hR
          simp only [go_sem, reduceIte, reduceCtorEq, Nat.reduceAdd, Nat.reduceEqDiff, Nat.reduceLeDiff, Nat.reduceLT, Nat.reduceSub, Int.reduceLE, Int.reduceNeg, Int.reduceLT, tsz9, tsz22, tsz27, tfld27, tsz24, tfld24, tel22, toNat_cast, und9, zero27, und4, bne_self_eq_false, rvT, toS_false]
          all_goals (refine hR _ ?_; clear hR; clear R))
        all_goals (refine qL_nil ?_; refine hK _ ?_; clear hK; clear K)
        all_goals (repeat with_reducible (first | refine EThen_n ?_ | refine EThen_r ?_ | refine EThen_e ?_ | refine EBlock_n ?_ | refine EBlock_r ?_ | refine EBlock_e ?_ | refine EBlock_o (by decide) ?_ | refine AW.seqX ?_ | refine AW.block ?_ | refine AW.skip ?_ | refine AW.exit ?_ | refine AW.ret ?_)))
  all_goals first
    | (fail_if_success (with_reducible refine ret_fun (t := 2) ?_ ?_))
    | (
        refine ret_fun (t := 2) ?_ (fun _ => rfl)
        simp only [go_sem, reduceIte, reduceCtorEq, Nat.reduceAdd, Nat.reduceEqDiff, Nat.reduceLeDiff, Nat.reduceLT, Nat.reduceSub, Int.reduceLE, Int.reduceNeg, Int.reduceLT, tsz9, tsz22, tsz27, tfld27, tsz24, tfld24, tel22, toNat_cast, und9, zero27, und4, bne_self_eq_false, rvT, toS_false]
        all_goals (simp_all))

end Go.Proofs.Ytmlbdicaeefomaa
