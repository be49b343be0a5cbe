/- the reference ReviewYes; reviews are the same; a number drawn from a code; a code opened; one of some strings drawn; owners and a path drawn from a code. No condition. -/
import Derived.Test.YtkbnkcdaiahoeaaDoorE28
import Derived.Test.YtkbnkcdaiahoeaaDoorAxE
import Derived.Test.YtkbnkcdaiahoeaaDoorD7
namespace Go.Proofs.YtkbnkcdaiahoeaaDoor
open Go Go.RowKit
set_option maxRecDepth 100000
set_option linter.unusedSimpArgs false
set_option linter.unusedVariables false
attribute [local go_sem] List.size_toArray Int.toNat_zero Nat.sub_zero size_mk top_val eq_self datL X.dat u8min u8max i64min i64max stepT gdO aop ev lit litOk putF fzX_false putO upd app List.contains_nil List.elem_nil aBin aInt aStr aBool aLen lenTy aBuiltin aLoad aTake aTakeX aStore splice aSlice aBd look_cons look_nil lookC_cons lookC_nil by_s by_C start_s start_C X.cells X.cell List.all_cons List.all_nil Bool.and_self Bool.not_true Bool.not_false false_implies true_implies forall_const and_true true_and and_self implies_true not_false_eq_true Nat.zero_add Nat.add_zero List.getD_cons_zero List.getD_cons_succ List.map_cons List.map_nil Option.bind_some Option.map_some Option.map_none List.getElem?_cons_zero List.getElem?_cons_succ List.length_cons List.length_nil List.drop_zero List.drop_succ_cons List.take_succ_cons List.take_zero List.cons_append List.nil_append List.append_nil D.of List.length_map all_get_map Option.isSome_some and_false false_and Nat.lt_add_one Nat.zero_lt_succ decide_true decide_false aPart Nat.lt_irrefl fzX litEs List.contains_cons List.elem_cons Bool.true_or Bool.or_true Bool.false_or Bool.or_false beq_self_eq_true
section
attribute [local go_sem] tsz9 tsz39 tel39 toNat_cast und9 tz9l iz9 aDst aSrc List.length_append
theorem sS_all (l : List ByteArray) : ∀ e ∈ l.map sS, e.length = 1 := by
  intro e he
  obtain ⟨s, -, rfl⟩ := List.mem_map.1 he
  rfl
end
section
attribute [local go_sem] tsz9 tsz39 tel39 toNat_cast und9 tz9l iz9 aDst aSrc List.length_append
end
section
attribute [local go_sem] tsz9 tsz39 tel39 toNat_cast und9 sS
theorem smTexts_spec (a b : List ByteArray) : Fun Tryd.prog 60 [.d (strs a), .d (strs b)] (.d (.bool (decide (a = b)))) := by
  refine Fun.of ?_ rfl rfl
  refine Spec.of (fn := Tryd.f60) Tryd.func60 rfl (by kernel_rfl) (rs := [.tmp 4]) rfl 1 (by simp [Tryd.f60]) rfl (by simp) ?_
  intro hreal
  rintro ⟨P, T, L0, w0, ι0, C0, U0⟩ hP hT hU
  subst hP hT
  refine st ?_
  have hla : a.length ≤ 9223372036854775807 := by simpa using D.real_len (X.real_d (hreal (.d (strs a)) (by simp)) : D.real (.sl (a.map sS)))
  all_goals first
  | fail_if_success with_reducible refine atR 0 ?_
  | (
    refine rg 0 [] [some 4] 1 ?_
    all_goals refine qP ?_
    all_goals refine qE ?_)
  all_goals first
  | fail_if_success with_reducible refine atR 1 ?_
  | (
    refine rg 1 [] [some 6, some 7, some 8, some 9, some 10] 5 ?_
    all_goals iterate 5 refine qP ?_
    all_goals refine qE ?_)
  all_goals first
  | fail_if_success with_reducible refine atC 10 ?_
  | (
    refine cn 10 ?_ ?_ <;> intro hc10 <;> try (cases hc10; done)
    all_goals refine st ?_)
  all_goals first
  | fail_if_success with_reducible refine atR 2 ?_
  | (
    refine rg 2 [] [some 4] 1 ?_
    all_goals refine qP ?_
    all_goals refine qE ?_)
  all_goals first
  | fail_if_success with_reducible refine atR 3 ?_
  | (
    refine rg 3 [] [some 5] 1 ?_
    all_goals refine qP ?_
    all_goals refine qE ?_)
  all_goals first
  | fail_if_success with_reducible refine AW.rounds (α := Nat) ?_ ?_ ?_ ?_ ?_ ?_ ?_ ?_
  | (
    refine AW.rounds (α := Nat) (fun i => i ≤ a.length ∧ a.length = b.length ∧ ∀ j, j < i → a[j]? = b[j]?) (fun i => St.by [(0, .d (strs a)), (1, .d (strs b)), (5, .d (.int .i64 i))] []) (fun i => a.length - i) 1 0 ?_ ?_ ?_
    · exact ⟨by omega, by omega, fun j hj => by omega⟩
    · refine Vw.to [] _ _ (vU hU) ?_ ?_ (by simp [tauL])
      · refine vd (vd (vw_d ?_ (trivial)))
        · first
          | exact cl2
          | (
            refine sm2 ?_
            all_goals (
             rfl))
      · trivial
    · intro i hJ
      refine st ?_
      obtain ⟨hJ1, hJ2, hJ3⟩ := hJ
      all_goals first
      | fail_if_success with_reducible refine atR 4 ?_
      | (
        refine rg 4 [] [some 11, some 12, some 13, some 14] 4 ?_
        all_goals iterate 4 refine qP ?_
        all_goals refine qE ?_)
      all_goals first
      | fail_if_success with_reducible refine atC 14 ?_
      | (
        refine cn 14 ?_ ?_ <;> intro hc14 <;> try (cases hc14; done)
        all_goals refine st ?_)
      all_goals first
      | fail_if_success with_reducible refine atR 6 ?_
      | (
        refine rgD 6 [] [some 17, some 18, some 19, some 20, some 21, some 22, some 23, some 24, some 25] 9 10 ?_
        intro av hav
        all_goals iterate 2 refine qP ?_
        all_goals (
          refine qL_cons ?_
          intro R hR
          refine sm ?_
          refine ⟨⟨by omega, by omega⟩, ?_⟩
          intro x1 hx1
          all_goals (refine hR _ ?_; clear hR R))
        all_goals iterate 3 refine qP ?_
        all_goals (
          refine qL_cons ?_
          intro R hR
          refine sm ?_
          refine ⟨⟨by omega, by omega⟩, ?_⟩
          intro x2 hx2
          all_goals (refine hR _ ?_; clear hR R))
        all_goals iterate 2 refine qP ?_
        all_goals refine qE ?_
        all_goals clear  hav av)
      all_goals first
      | fail_if_success with_reducible refine atC 25 ?_
      | (
        refine cn 25 ?_ ?_ <;> intro hc25 <;> try (cases hc25; done)
        all_goals refine st ?_)
      all_goals first
      | fail_if_success with_reducible refine atR 7 ?_
      | (
        refine rg 7 [] [some 4] 1 ?_
        all_goals refine qP ?_
        all_goals refine qE ?_)
      all_goals first
      | fail_if_success with_reducible refine atR 5 ?_
      | (
        refine rg 5 [] [some 15, some 16, some 5] 3 ?_
        all_goals refine qP ?_
        all_goals (
          refine qL_cons ?_
          intro R hR
          refine sm ?_
          rw [wrap64 (by omega) (by omega)]
          all_goals (refine hR _ ?_; clear hR R))
        all_goals refine qP ?_
        all_goals refine qE ?_)
      all_goals first
      | fail_if_success with_reducible refine ⟨i + 1, ?_, ?_, ?_⟩
      | (
        refine ⟨i + 1, ?_, ?_, ?_⟩
        · refine ⟨by omega, hJ2, fun j hj => ?_⟩
          by_cases hji : j = i
          · subst hji; simp_all
          · exact hJ3 j (by omega)
        · omega
        · refine Vw.to [] _ _ (vU hU) ?_ ?_ (by simp [tauL])
          · refine vd (vd (vw_d ?_ (trivial)))
            · first
              | exact cl2
              | (
                refine sm2 ?_
                all_goals (
                 congr 1))
          · trivial)
      all_goals first
      | fail_if_success with_reducible refine atR 8 ?_
      | (
        refine rg 8 [] [some 4] 1 ?_
        all_goals refine qP ?_
        all_goals refine qE ?_)
      all_goals first
      | fail_if_success with_reducible refine ret_fun (t := 4) ?_ ?_
      | (
        refine ret_fun (t := 4) ?_ (fun _ => rfl)
        first
        | exact cl
        | (
          try refine sm ?_
          all_goals (
           first
             | (congr 2; symm; rw [decide_eq_false_iff_not]; intro hab; subst hab; simp_all; done)
             | (congr 2; symm; rw [decide_eq_true_eq]; apply List.ext_getElem?; intro j; by_cases hj : j < i
                · exact hJ3 j hj
                · rw [List.getElem?_eq_none (by omega), List.getElem?_eq_none (by omega)])))))
  all_goals first
  | fail_if_success with_reducible refine ret_fun (t := 4) ?_ ?_
  | (
    refine ret_fun (t := 4) ?_ (fun _ => rfl)
    first
    | exact cl
    | (
      try refine sm ?_
      all_goals (
       first
         | (congr 2; symm; rw [decide_eq_false_iff_not]; intro hab; subst hab; simp_all; done)
         | (congr 2; symm; rw [decide_eq_true_eq]; apply List.ext_getElem?; intro j; by_cases hj : j < i
            · exact hJ3 j hj
            · rw [List.getElem?_eq_none (by omega), List.getElem?_eq_none (by omega)]))))

end
section
attribute [local go_sem] tsz9 tsz39 tel39 toNat_cast und9 sS
end
section
attribute [local go_sem] tsz9 tsz39 tel39 toNat_cast und9
end
end Go.Proofs.YtkbnkcdaiahoeaaDoor
namespace Go.Proofs.YtkbnkcdaiahoeaaDoor
open Go Go.RowKit
set_option maxRecDepth 100000
set_option linter.unusedSimpArgs false
set_option linter.unusedVariables false
theorem tsz29 : tsz Tryd.prog 29 = some (false, 1) := by kernel_rfl
theorem tsz5 : tsz Tryd.prog 5 = some (false, 1) := by kernel_rfl
theorem tsz3 : tsz Tryd.prog 3 = some (false, 1) := by kernel_rfl
theorem tsz80 : tsz Tryd.prog 80 = some (true, 2) := by kernel_rfl
theorem tfld80 : tfld Tryd.prog 80 = some [(0, 29), (1, 3)] := by kernel_rfl
theorem tel29 : telem Tryd.prog 29 = some (5, 1, 1) := by kernel_rfl
theorem zero80 : tzero Tryd.prog 80 = some [.nil, .d (.int .i64 0)] := by kernel_rfl
theorem und3 : Tryd.prog.underlying 3 = some (.int .i64) := by kernel_rfl
theorem und5 : Tryd.prog.underlying 5 = some (.int .u8) := by kernel_rfl
def bX (c : UInt8) : List D := [.int .u8 c.toNat]
/-- The reader of a code: its bytes, how many were read. -/
def rdC (bs : List UInt8) (p : Int) : Cap := .box 80 [.d (.of bX bs), .d (.int .i64 p)]
theorem wrapU {n : Int} (h1 : -9223372036854775808 ≤ n) (h2 : n ≤ 9223372036854775807) : IntKind.i64.wrap n = n := wrap64 h1 h2
theorem tdiv_bd {a b : Int} (ha : 0 ≤ a) (hb : 0 < b) : 0 ≤ a.tdiv b ∧ a.tdiv b ≤ a := by
  rw [Int.tdiv_eq_ediv_of_nonneg ha]
  exact ⟨Int.ediv_nonneg ha (by omega), Int.ediv_le_self _ ha⟩
theorem tmod_bd {a b : Int} (ha : 0 ≤ a) (hb : 0 < b) : 0 ≤ a.tmod b ∧ a.tmod b < b := by
  rw [Int.tmod_eq_emod_of_nonneg ha]
  exact ⟨Int.emod_nonneg _ (by omega), Int.emod_lt_of_pos _ hb⟩
theorem bX_get {bs : List UInt8} {i : Nat} {c : List D} (h : (bs.map bX)[i]? = some c) : ∃ y, bs[i]? = some y ∧ c = bX y := by
  rw [List.getElem?_map] at h
  cases hs : bs[i]? with
  | none => rw [hs] at h; cases h
  | some y => rw [hs] at h; exact ⟨y, rfl, (Option.some.inj h).symm⟩
def pickR (bs : List UInt8) (n p : Int) : X → Cap → Prop := fun x c' => ∃ r : Int, x = .d (.int .i64 r) ∧ 0 ≤ r ∧ (r < n ∨ r = 0) ∧ c' = rdC bs (p + 1)
attribute [local go_sem] List.size_toArray Int.toNat_zero Nat.sub_zero size_mk top_val eq_self datL X.dat u8min u8max i64min i64max stepT gdO aop ev lit litOk putF fzX_false putO upd app List.contains_nil List.elem_nil aBin aInt aStr aBool aLen lenTy aBuiltin aLoad aTake aTakeX aStore splice aSlice aBd look_cons look_nil lookC_cons lookC_nil by_s by_C start_s start_C X.cells X.cell List.all_cons List.all_nil Bool.and_self Bool.not_true Bool.not_false false_implies true_implies forall_const and_true true_and and_self implies_true not_false_eq_true Nat.zero_add Nat.add_zero List.getD_cons_zero List.getD_cons_succ List.map_cons List.map_nil Option.bind_some Option.map_some Option.map_none List.getElem?_cons_zero List.getElem?_cons_succ List.length_cons List.length_nil List.drop_zero List.drop_succ_cons List.take_succ_cons List.take_zero List.cons_append List.nil_append List.append_nil D.of List.length_map all_get_map Option.isSome_some and_false false_and Nat.lt_add_one Nat.zero_lt_succ decide_true decide_false aPart Nat.lt_irrefl fzX litEs List.contains_cons List.elem_cons Bool.true_or Bool.or_true Bool.false_or Bool.or_false beq_self_eq_true
section
attribute [local go_sem] tsz29 tsz5 tsz3 tsz80 tfld80 tel29 zero80 und3 und5 toNat_cast und9 rdC bX caps1
theorem pick_spec (bs : List UInt8) (n p : Int) (hp : 0 ≤ p) (hp2 : p ≤ 1000000) (hn : n ≤ 1000000) : Spec Tryd.prog 64 [.bx 0 0, .d (.int .i64 n)] [(0, rdC bs p)] 1 (fun x δ => ∃ c', δ = [(0, some c')] ∧ pickR bs n p x c') := by
  refine Spec.of (fn := Tryd.f64) Tryd.func64 rfl (by kernel_rfl) (rs := [.tmp 4]) rfl 2 (by simp [Tryd.f64]) rfl (by simp [Cap.on, X.onL, X.on, rdC]) ?_
  intro hreal
  rintro ⟨P, T, L0, w0, ι0, C0, U0⟩ hP hT hU
  subst hP hT
  refine st ?_
  have hlen : True := trivial
  all_goals first
  | fail_if_success with_reducible refine atR 0 ?_
  | (
    refine rg 0 [] [some 4] 1 ?_
    all_goals refine qP ?_
    all_goals refine qE ?_)
  all_goals first
  | fail_if_success with_reducible refine atR 1 ?_
  | (
    refine rg 1 [] [some 7, some 8, some 9, some 10, some 11, some 12, some 13, some 14, none] 9 ?_
    all_goals iterate 5 refine qP ?_
    all_goals (
      refine qL_cons ?_
      intro R hR
      refine sm ?_
      simp (disch := omega) only [wrap64]
      all_goals (refine hR _ ?_; clear hR R))
    all_goals iterate 3 refine qP ?_
    all_goals refine qE ?_)
  all_goals first
  | fail_if_success with_reducible refine atR 2 ?_
  | (
    refine rg 2 [] [some 15, some 16, some 17, some 18, some 19, some 20, some 21, some 22, some 23, some 24] 10 ?_
    all_goals iterate 3 refine qP ?_
    all_goals first | refine qU 17 ?_ | (refine qS 17 ?_ ?_ <;> intro hg2_2 <;> try (cases hg2_2; done))
    all_goals iterate 7 refine qP ?_
    all_goals refine qE ?_)
  all_goals first
  | fail_if_success with_reducible refine atC 24 ?_
  | (
    refine cn 24 ?_ ?_ <;> intro hc24 <;> try (cases hc24; done)
    all_goals refine st ?_)
  all_goals first
  | fail_if_success with_reducible refine atR 3 ?_
  | (
    refine rg 3 [] [some 4] 1 ?_
    all_goals refine qP ?_
    all_goals refine qE ?_)
  all_goals first
  | fail_if_success with_reducible refine atR 4 ?_
  | (
    refine rg 4 [] [some 25, some 26, some 27, some 28, some 29, some 5] 6 ?_
    all_goals iterate 4 refine qP ?_
    all_goals (
      refine qL_cons ?_
      intro R hR
      refine sm ?_
      simp (disch := omega) only [wrap64]
      rw [show p + 1 - 1 = p by omega]
      all_goals (refine hR _ ?_; clear hR R))
    all_goals refine qP ?_
    all_goals refine qE ?_)
  all_goals first
  | fail_if_success with_reducible refine atR 5 ?_
  | (
    refine rg 5 [] [some 30, some 31, some 32, some 33, some 34, some 35, some 36] 7 ?_
    all_goals iterate 7 refine qP ?_
    all_goals refine qE ?_)
  all_goals first
  | fail_if_success with_reducible refine atC 36 ?_
  | (
    refine cn 36 ?_ ?_ <;> intro hc36 <;> try (cases hc36; done)
    all_goals refine st ?_)
  all_goals try have q1 := tmod_bd (a := p) (b := (bs.length : Int)) (by omega) (by omega)
  all_goals try have q2 := tmod_bd (a := p * 7 + 3) (b := (bs.length : Int)) (by omega) (by omega)
  all_goals try have q3 := tdiv_bd (a := p) (b := (bs.length : Int)) (by omega) (by omega)
  all_goals first
  | fail_if_success with_reducible refine atR 6 ?_
  | (
    refine rg 6 [] [some 37, some 38, some 39, some 40, some 41, some 42, some 43, some 44, some 45, some 46, some 4] 11 ?_
    all_goals iterate 5 refine qP ?_
    all_goals (
      refine qL_cons ?_
      intro R hR
      refine sm ?_
      refine ⟨⟨by omega, by omega⟩, ?_⟩
      intro x hx
      have hxb : (x.toNat : Int) ≤ 255 := by have := x.toNat_lt; omega
      all_goals (refine hR _ ?_; clear hR R))
    all_goals iterate 3 refine qP ?_
    all_goals (
      refine qL_cons ?_
      intro R hR
      refine sm ?_
      refine ⟨by omega, ?_⟩
      have qq := tmod_bd (a := (x.toNat : Int)) (b := n) (by omega) (by omega)
      simp (disch := omega) only [wrap64]
      all_goals (refine hR _ ?_; clear hR R))
    all_goals refine qP ?_
    all_goals refine qE ?_)
  all_goals first
  | fail_if_success with_reducible refine atR 7 ?_
  | (
    refine rgD 7 [] [some 47, some 48, some 49, some 50, some 51, some 52, some 53, some 54, some 55, some 56, some 57, some 58, some 59, some 60, some 61, some 62, some 63, some 64, some 65, some 66, some 67, some 68, some 69, some 70, some 71, some 72, some 73, some 74, some 75, some 76, some 77, some 78, some 79, some 80, some 81, some 82, some 83, some 84, some 85, some 86, some 87, some 88, some 89, some 90, some 91, some 6] 46 47 ?_
    intro av hav
    have hf0 := freeD 0 hav
    all_goals iterate 3 refine qP ?_
    all_goals (
      refine qL_cons ?_
      intro R hR
      simp only [go_sem, reduceIte, reduceCtorEq, Nat.reduceAdd, Nat.reduceEqDiff, Nat.reduceLeDiff, Nat.reduceLT, Nat.reduceSub, Int.reduceLE, Int.reduceNeg, Int.reduceLT, hf0]
      all_goals (refine hR _ ?_; clear hR R))
    all_goals iterate 4 refine qP ?_
    all_goals (
      refine qL_cons ?_
      intro R hR
      simp only [go_sem, reduceIte, reduceCtorEq, Nat.reduceAdd, Nat.reduceEqDiff, Nat.reduceLeDiff, Nat.reduceLT, Nat.reduceSub, Int.reduceLE, Int.reduceNeg, Int.reduceLT, hf0]
      all_goals (refine hR _ ?_; clear hR R))
    all_goals refine qP ?_
    all_goals (
      refine qL_cons ?_
      intro R hR
      simp only [go_sem, reduceIte, reduceCtorEq, Nat.reduceAdd, Nat.reduceEqDiff, Nat.reduceLeDiff, Nat.reduceLT, Nat.reduceSub, Int.reduceLE, Int.reduceNeg, Int.reduceLT, hf0]
      refine ⟨by omega, ?_⟩
      have qq := tmod_bd (a := p) (b := (bs.length : Int)) (by omega) (by omega)
      simp (disch := omega) only [wrap64]
      all_goals (refine hR _ ?_; clear hR R))
    all_goals (
      refine qL_cons ?_
      intro R hR
      simp only [go_sem, reduceIte, reduceCtorEq, Nat.reduceAdd, Nat.reduceEqDiff, Nat.reduceLeDiff, Nat.reduceLT, Nat.reduceSub, Int.reduceLE, Int.reduceNeg, Int.reduceLT, hf0]
      refine ⟨⟨by omega, by omega⟩, ?_⟩
      intro x1 hx1
      have hx1b : (x1.toNat : Int) ≤ 255 := by have := x1.toNat_lt; omega
      all_goals (refine hR _ ?_; clear hR R))
    all_goals (
      refine qL_cons ?_
      intro R hR
      simp only [go_sem, reduceIte, reduceCtorEq, Nat.reduceAdd, Nat.reduceEqDiff, Nat.reduceLeDiff, Nat.reduceLT, Nat.reduceSub, Int.reduceLE, Int.reduceNeg, Int.reduceLT, hf0]
      all_goals (refine hR _ ?_; clear hR R))
    all_goals refine qP ?_
    all_goals (
      refine qL_cons ?_
      intro R hR
      simp only [go_sem, reduceIte, reduceCtorEq, Nat.reduceAdd, Nat.reduceEqDiff, Nat.reduceLeDiff, Nat.reduceLT, Nat.reduceSub, Int.reduceLE, Int.reduceNeg, Int.reduceLT, hf0]
      simp (disch := omega) only [wrap64]
      all_goals (refine hR _ ?_; clear hR R))
    all_goals iterate 3 refine qP ?_
    all_goals (
      refine qL_cons ?_
      intro R hR
      simp only [go_sem, reduceIte, reduceCtorEq, Nat.reduceAdd, Nat.reduceEqDiff, Nat.reduceLeDiff, Nat.reduceLT, Nat.reduceSub, Int.reduceLE, Int.reduceNeg, Int.reduceLT, hf0]
      all_goals (refine hR _ ?_; clear hR R))
    all_goals refine qP ?_
    all_goals (
      refine qL_cons ?_
      intro R hR
      simp only [go_sem, reduceIte, reduceCtorEq, Nat.reduceAdd, Nat.reduceEqDiff, Nat.reduceLeDiff, Nat.reduceLT, Nat.reduceSub, Int.reduceLE, Int.reduceNeg, Int.reduceLT, hf0]
      simp (disch := omega) only [wrap64]
      all_goals (refine hR _ ?_; clear hR R))
    all_goals (
      refine qL_cons ?_
      intro R hR
      simp only [go_sem, reduceIte, reduceCtorEq, Nat.reduceAdd, Nat.reduceEqDiff, Nat.reduceLeDiff, Nat.reduceLT, Nat.reduceSub, Int.reduceLE, Int.reduceNeg, Int.reduceLT, hf0]
      simp (disch := omega) only [wrap64]
      all_goals (refine hR _ ?_; clear hR R))
    all_goals iterate 3 refine qP ?_
    all_goals (
      refine qL_cons ?_
      intro R hR
      simp only [go_sem, reduceIte, reduceCtorEq, Nat.reduceAdd, Nat.reduceEqDiff, Nat.reduceLeDiff, Nat.reduceLT, Nat.reduceSub, Int.reduceLE, Int.reduceNeg, Int.reduceLT, hf0]
      all_goals (refine hR _ ?_; clear hR R))
    all_goals refine qP ?_
    all_goals (
      refine qL_cons ?_
      intro R hR
      simp only [go_sem, reduceIte, reduceCtorEq, Nat.reduceAdd, Nat.reduceEqDiff, Nat.reduceLeDiff, Nat.reduceLT, Nat.reduceSub, Int.reduceLE, Int.reduceNeg, Int.reduceLT, hf0]
      refine ⟨by omega, ?_⟩
      have qq := tmod_bd (a := p * 7 + 3) (b := (bs.length : Int)) (by omega) (by omega)
      simp (disch := omega) only [wrap64]
      all_goals (refine hR _ ?_; clear hR R))
    all_goals (
      refine qL_cons ?_
      intro R hR
      simp only [go_sem, reduceIte, reduceCtorEq, Nat.reduceAdd, Nat.reduceEqDiff, Nat.reduceLeDiff, Nat.reduceLT, Nat.reduceSub, Int.reduceLE, Int.reduceNeg, Int.reduceLT, hf0]
      refine ⟨⟨by omega, by omega⟩, ?_⟩
      intro x2 hx2
      have hx2b : (x2.toNat : Int) ≤ 255 := by have := x2.toNat_lt; omega
      all_goals (refine hR _ ?_; clear hR R))
    all_goals (
      refine qL_cons ?_
      intro R hR
      simp only [go_sem, reduceIte, reduceCtorEq, Nat.reduceAdd, Nat.reduceEqDiff, Nat.reduceLeDiff, Nat.reduceLT, Nat.reduceSub, Int.reduceLE, Int.reduceNeg, Int.reduceLT, hf0]
      all_goals (refine hR _ ?_; clear hR R))
    all_goals refine qP ?_
    all_goals (
      refine qL_cons ?_
      intro R hR
      simp only [go_sem, reduceIte, reduceCtorEq, Nat.reduceAdd, Nat.reduceEqDiff, Nat.reduceLeDiff, Nat.reduceLT, Nat.reduceSub, Int.reduceLE, Int.reduceNeg, Int.reduceLT, hf0]
      simp (disch := omega) only [wrap64]
      all_goals (refine hR _ ?_; clear hR R))
    all_goals (
      refine qL_cons ?_
      intro R hR
      simp only [go_sem, reduceIte, reduceCtorEq, Nat.reduceAdd, Nat.reduceEqDiff, Nat.reduceLeDiff, Nat.reduceLT, Nat.reduceSub, Int.reduceLE, Int.reduceNeg, Int.reduceLT, hf0]
      simp (disch := omega) only [wrap64]
      all_goals (refine hR _ ?_; clear hR R))
    all_goals refine qP ?_
    all_goals (
      refine qL_cons ?_
      intro R hR
      simp only [go_sem, reduceIte, reduceCtorEq, Nat.reduceAdd, Nat.reduceEqDiff, Nat.reduceLeDiff, Nat.reduceLT, Nat.reduceSub, Int.reduceLE, Int.reduceNeg, Int.reduceLT, hf0]
      simp (disch := omega) only [wrap64]
      all_goals (refine hR _ ?_; clear hR R))
    all_goals (
      refine qL_cons ?_
      intro R hR
      simp only [go_sem, reduceIte, reduceCtorEq, Nat.reduceAdd, Nat.reduceEqDiff, Nat.reduceLeDiff, Nat.reduceLT, Nat.reduceSub, Int.reduceLE, Int.reduceNeg, Int.reduceLT, hf0]
      simp (disch := omega) only [wrap64]
      all_goals (refine hR _ ?_; clear hR R))
    all_goals iterate 4 refine qP ?_
    all_goals (
      refine qL_cons ?_
      intro R hR
      simp only [go_sem, reduceIte, reduceCtorEq, Nat.reduceAdd, Nat.reduceEqDiff, Nat.reduceLeDiff, Nat.reduceLT, Nat.reduceSub, Int.reduceLE, Int.reduceNeg, Int.reduceLT, hf0]
      all_goals (refine hR _ ?_; clear hR R))
    all_goals refine qP ?_
    all_goals (
      refine qL_cons ?_
      intro R hR
      simp only [go_sem, reduceIte, reduceCtorEq, Nat.reduceAdd, Nat.reduceEqDiff, Nat.reduceLeDiff, Nat.reduceLT, Nat.reduceSub, Int.reduceLE, Int.reduceNeg, Int.reduceLT, hf0]
      refine ⟨by omega, ?_⟩
      have qq := tdiv_bd (a := p) (b := (bs.length : Int)) (by omega) (by omega)
      simp (disch := omega) only [wrap64]
      all_goals (refine hR _ ?_; clear hR R))
    all_goals (
      refine qL_cons ?_
      intro R hR
      simp only [go_sem, reduceIte, reduceCtorEq, Nat.reduceAdd, Nat.reduceEqDiff, Nat.reduceLeDiff, Nat.reduceLT, Nat.reduceSub, Int.reduceLE, Int.reduceNeg, Int.reduceLT, hf0]
      simp (disch := omega) only [wrap64]
      all_goals (refine hR _ ?_; clear hR R))
    all_goals (
      refine qL_cons ?_
      intro R hR
      simp only [go_sem, reduceIte, reduceCtorEq, Nat.reduceAdd, Nat.reduceEqDiff, Nat.reduceLeDiff, Nat.reduceLT, Nat.reduceSub, Int.reduceLE, Int.reduceNeg, Int.reduceLT, hf0]
      simp (disch := omega) only [wrap64]
      all_goals (refine hR _ ?_; clear hR R))
    all_goals refine qP ?_
    all_goals refine qE ?_
    all_goals clear hf0 hav av)
  all_goals first
  | fail_if_success with_reducible refine atR 8 ?_
  | (
    refine rg 8 [] [some 92, some 93, some 94, some 95, some 6] 5 ?_
    all_goals iterate 2 refine qP ?_
    all_goals (
      refine qL_cons ?_
      intro R hR
      refine sm ?_
      have qq := tdiv_bd (a := (x1.toNat * 131 + x2.toNat * 1117 + p * 29 + p.tdiv bs.length * 53)) (b := 64) (by omega) (by omega)
      simp (disch := omega) only [wrap64]
      all_goals (refine hR _ ?_; clear hR R))
    all_goals (
      refine qL_cons ?_
      intro R hR
      refine sm ?_
      intro r hr1 hr2
      all_goals (refine hR _ ?_; clear hR R))
    all_goals refine qP ?_
    all_goals refine qE ?_)
  all_goals first
  | fail_if_success with_reducible refine atR 9 ?_
  | (
    refine rg 9 [] [some 96, some 97, some 98, some 4] 4 ?_
    all_goals iterate 2 refine qP ?_
    all_goals (
      refine qL_cons ?_
      intro R hR
      refine sm ?_
      have qr := tdiv_bd (a := (x1.toNat * 131 + x2.toNat * 1117 + p * 29 + p.tdiv bs.length * 53)) (b := 64) (by omega) (by omega)
      have hr3 := hr2 (by omega) (by omega)
      refine ⟨by omega, ?_⟩
      have qq := tmod_bd (a := r) (b := n) (by omega) (by omega)
      simp (disch := omega) only [wrap64]
      all_goals (refine hR _ ?_; clear hR R))
    all_goals refine qP ?_
    all_goals refine qE ?_)
  all_goals first
  | (refine ret_box (c1 := rdC bs (p + 1)) [.d (.int .i64 0)] ⟨cl, trivial⟩ (fun _ => rfl) cl rfl ⟨_, rfl, by omega, .inr rfl, rfl⟩; done)
  | (
    have qq := tmod_bd (a := (x.toNat : Int)) (b := n) (by omega) (by omega)
    refine ret_box (c1 := rdC bs (p + 1)) [.d (.int .i64 ((x.toNat : Int).tmod n))] ⟨cl, trivial⟩ (fun _ => rfl) cl rfl ⟨_, rfl, by omega, .inl (by omega), rfl⟩)
  | (
    have qr := tdiv_bd (a := (x1.toNat * 131 + x2.toNat * 1117 + p * 29 + p.tdiv bs.length * 53)) (b := 64) (by omega) (by omega)
    have hr3 := hr2 (by omega) (by omega)
    have qq := tmod_bd (a := r) (b := n) (by omega) (by omega)
    refine ret_box (c1 := rdC bs (p + 1)) [.d (.int .i64 (r.tmod n))] ⟨cl, trivial⟩ (fun _ => rfl) cl rfl ⟨_, rfl, by omega, .inl (by omega), rfl⟩)

end
end Go.Proofs.YtkbnkcdaiahoeaaDoor
namespace Go.Proofs.YtkbnkcdaiahoeaaDoor
open Go Go.RowKit
set_option maxRecDepth 100000
set_option linter.unusedSimpArgs false
set_option linter.unusedVariables false
theorem bX_len (l : List UInt8) : ∀ e ∈ l.map bX, e.length = 1 := by
  intro e he
  obtain ⟨s, -, rfl⟩ := List.mem_map.1 he
  rfl
def cutB (bs : List UInt8) : List UInt8 := if 2000 < bs.length then bs.take 2000 else bs
theorem pickR_on {bs : List UInt8} {n p : Int} : ∀ x c', pickR bs n p x c' → x.on (fun _ => false) = true ∧ c'.on (fun _ => false) = true := by
  rintro x c' ⟨r, rfl, -, -, rfl⟩
  exact ⟨rfl, rfl⟩
theorem pickR_ne (bs : List UInt8) (n p : Int) : ∃ x c', pickR bs n p x c' := ⟨_, _, 0, rfl, by omega, .inr rfl, rfl⟩
def ofR (bs : List UInt8) (p : Int) : X → Cap → Prop := fun x c' => ∃ s : ByteArray, x = .d (.str s) ∧ c' = rdC bs (p + 1)
theorem ofR_on {bs : List UInt8} {p : Int} : ∀ x c', ofR bs p x c' → x.on (fun _ => false) = true ∧ c'.on (fun _ => false) = true := by
  rintro x c' ⟨r, rfl, rfl⟩
  exact ⟨rfl, rfl⟩
theorem ofR_ne (bs : List UInt8) (p : Int) : ∃ x c', ofR bs p x c' := ⟨_, _, ByteArray.empty, rfl, rfl⟩
def RVx (v : Rv) : X := .ag [.d (.str v.br), .d (.str v.into), .d (.str v.by_), .d (strs v.yes)]
def rvR (bs : List UInt8) (p k : Int) : X → Cap → Prop := fun x c' => ∃ v : Rv, x = RVx v ∧ ∃ q : Int, p ≤ q ∧ q ≤ p + k ∧ c' = rdC bs q
theorem rvR_on {bs : List UInt8} {p k : Int} : ∀ x c', rvR bs p k x c' → x.on (fun _ => false) = true ∧ c'.on (fun _ => false) = true := by
  rintro x c' ⟨v, rfl, q, -, -, rfl⟩
  exact ⟨rfl, rfl⟩
theorem rvR_ne (bs : List UInt8) (p k : Int) (hk : 0 ≤ k) : ∃ x c', rvR bs p k x c' := ⟨_, _, ⟨ByteArray.empty, ByteArray.empty, ByteArray.empty, []⟩, rfl, p, by omega, by omega, rfl⟩
attribute [local go_sem] List.size_toArray Int.toNat_zero Nat.sub_zero size_mk top_val eq_self datL X.dat u8min u8max i64min i64max stepT gdO aop ev lit litOk putF fzX_false putO upd app List.contains_nil List.elem_nil aBin aInt aStr aBool aLen lenTy aBuiltin aLoad aTake aTakeX aStore splice aSlice aBd look_cons look_nil lookC_cons lookC_nil by_s by_C start_s start_C X.cells X.cell List.all_cons List.all_nil Bool.and_self Bool.not_true Bool.not_false false_implies true_implies forall_const and_true true_and and_self implies_true not_false_eq_true Nat.zero_add Nat.add_zero List.getD_cons_zero List.getD_cons_succ List.map_cons List.map_nil Option.bind_some Option.map_some Option.map_none List.getElem?_cons_zero List.getElem?_cons_succ List.length_cons List.length_nil List.drop_zero List.drop_succ_cons List.take_succ_cons List.take_zero List.cons_append List.nil_append List.append_nil D.of List.length_map all_get_map Option.isSome_some and_false false_and Nat.lt_add_one Nat.zero_lt_succ decide_true decide_false aPart Nat.lt_irrefl fzX litEs List.contains_cons List.elem_cons Bool.true_or Bool.or_true Bool.false_or Bool.or_false beq_self_eq_true
section
attribute [local go_sem] tsz29 tsz5 tsz3 tsz80 tfld80 tel29 zero80 und3 und5 toNat_cast und9 bX
theorem l30Open_spec (bs : List UInt8) : FunN Tryd.prog 36 [.d (.of bX bs)] (rdC (cutB bs) 0) := by
  refine FunN.of ?_ rfl rfl
  refine Spec.of (fn := Tryd.f36) Tryd.func36 rfl (by kernel_rfl) (rs := [.tmp 2]) rfl 1 (by simp [Tryd.f36]) rfl (by simp) ?_
  intro hreal
  rintro ⟨P, T, L0, w0, ι0, C0, U0⟩ hP hT hU
  subst hP hT
  refine st ?_
  all_goals first
  | fail_if_success with_reducible refine atR 0 ?_
  | (
    refine rg 0 [] [some 2] 1 ?_
    all_goals refine qP ?_
    all_goals refine qE ?_)
  all_goals first
  | fail_if_success with_reducible refine atR 1 ?_
  | (
    refine rg 1 [] [some 3, some 4, some 5] 3 ?_
    all_goals iterate 3 refine qP ?_
    all_goals refine qE ?_)
  all_goals first
  | fail_if_success with_reducible refine atC 5 ?_
  | (
    refine cn 5 ?_ ?_ <;> intro hc5 <;> try (cases hc5; done)
    all_goals refine st ?_)
  all_goals first
  | fail_if_success with_reducible refine atR 2 ?_
  | (
    refine rg 2 [] [some 6, some 7, some 0] 3 ?_
    all_goals refine qP ?_
    all_goals (
      refine qL_cons ?_
      intro R hR
      refine sm ?_
      refine ⟨bX_len _, by omega, ?_⟩
      rw [← List.map_take]
      all_goals (refine hR _ ?_; clear hR R))
    all_goals refine qP ?_
    all_goals refine qE ?_)
  all_goals first
  | fail_if_success with_reducible refine atR 3 ?_
  | (
    refine rg 3 [] [some 8, some 9, some 10, some 2] 4 ?_
    all_goals iterate 4 refine qP ?_
    all_goals refine qE ?_)
  all_goals first
  | (
    have hb : cutB bs = bs.take 2000 := by unfold cutB; rw [if_pos (by omega)]
    rw [hb]
    exact ret_new 10 hU cl cl rfl)
  | (
    have hb : cutB bs = bs := by unfold cutB; rw [if_neg (by omega)]
    rw [hb]
    exact ret_new 7 hU cl cl rfl)

end
section
attribute [local go_sem] tsz9 tsz39 tel39 toNat_cast und9 caps1 sS
theorem of_spec (bs : List UInt8) (L : List ByteArray) (p : Int) (hp : 0 ≤ p) (hp2 : p ≤ 1000000) (hL : 0 < L.length) (hL2 : L.length ≤ 1000000) : Spec Tryd.prog 65 [.bx 0 0, .d (strs L)] [(0, rdC bs p)] 1 (fun x δ => ∃ c', δ = [(0, some c')] ∧ ofR bs p x c') := by
  refine Spec.of (fn := Tryd.f65) Tryd.func65 rfl (by kernel_rfl) (rs := [.tmp 4]) rfl 2 (by simp [Tryd.f65]) rfl (by simp [Cap.on, X.onL, X.on, rdC]) ?_
  intro hreal
  rintro ⟨P, T, L0, w0, ι0, C0, U0⟩ hP hT hU
  subst hP hT
  refine st ?_
  all_goals first
  | fail_if_success with_reducible refine atR 0 ?_
  | (
    refine rg 0 [] [some 4] 1 ?_
    all_goals refine qP ?_
    all_goals refine qE ?_)
  all_goals first
  | fail_if_success with_reducible refine atR 1 ?_
  | (
    refine rg 1 [] [some 5, some 6, some 7, some 8, some 9, some 10, some 11, some 4] 8 ?_
    all_goals iterate 4 refine qP ?_
    all_goals (
      refine qL_cons ?_
      intro R hR
      refine sm ?_
      refine call_box (pick_spec bs L.length p hp hp2 (by omega)) rfl rfl pickR_on (pickR_ne _ _ _) (a := 0) (by decide) cl trivial (fun h => h) ?_ ?_
      · exact ⟨.inl rfl, ⟨.inl rfl, trivial⟩⟩
      rintro _ _ ⟨r, rfl, hr0, hr1, rfl⟩
      try refine sm ?_
      all_goals (refine hR _ ?_; clear hR R))
    all_goals (
      refine qL_cons ?_
      intro R hR
      refine sm ?_
      refine ⟨⟨by omega, by omega⟩, ?_⟩
      intro s hs
      all_goals (refine hR _ ?_; clear hR R))
    all_goals iterate 2 refine qP ?_
    all_goals refine qE ?_)
  all_goals exact ret_box (c1 := rdC bs (p + 1)) [.d (.str s)] ⟨cl, trivial⟩ (fun _ => rfl) cl rfl ⟨_, rfl, rfl⟩

end
end Go.Proofs.YtkbnkcdaiahoeaaDoor
namespace Go.Proofs.YtkbnkcdaiahoeaaDoor
open Go Go.RowKit
set_option maxRecDepth 100000
set_option maxHeartbeats 4000000
set_option linter.unusedSimpArgs false
set_option linter.unusedVariables false
def ofLR (bs : List UInt8) (L : List ByteArray) (p : Int) : X → Cap → Prop := fun x c' => ∃ s : ByteArray, s ∈ L ∧ x = .d (.str s) ∧ c' = rdC bs (p + 1)
theorem ofLR_on {bs : List UInt8} {L : List ByteArray} {p : Int} : ∀ x c', ofLR bs L p x c' → x.on (fun _ => false) = true ∧ c'.on (fun _ => false) = true := by
  rintro x c' ⟨s, -, rfl, rfl⟩
  exact ⟨rfl, rfl⟩
theorem ofLR_ne (bs : List UInt8) (p : Int) (s : ByteArray) (L : List ByteArray) : ∃ x c', ofLR bs (s :: L) p x c' := ⟨_, _, s, List.mem_cons_self, rfl, rfl⟩
def szR (bs : List UInt8) (p k : Int) : X → Cap → Prop := fun x c' => ∃ s : ByteArray, s.size ≤ 100 ∧ x = .d (.str s) ∧ ∃ q : Int, p ≤ q ∧ q ≤ p + k ∧ c' = rdC bs q
theorem szR_on {bs : List UInt8} {p k : Int} : ∀ x c', szR bs p k x c' → x.on (fun _ => false) = true ∧ c'.on (fun _ => false) = true := by
  rintro x c' ⟨s, -, rfl, q, -, -, rfl⟩
  exact ⟨rfl, rfl⟩
theorem szR_ne (bs : List UInt8) (p k : Int) (hk : 0 ≤ k) : ∃ x c', szR bs p k x c' := ⟨_, _, ByteArray.empty, by decide, rfl, p, by omega, by omega, rfl⟩
def owR (bs : List UInt8) (p k : Int) : X → Cap → Prop := fun x c' => ∃ os : List Ow, (∀ o ∈ os, o.path.size ≤ 100) ∧ os.length ≤ 5 ∧ x = .d (.of owX os) ∧ ∃ q : Int, p ≤ q ∧ q ≤ p + k ∧ c' = rdC bs q
theorem owR_on {bs : List UInt8} {p k : Int} : ∀ x c', owR bs p k x c' → x.on (fun _ => false) = true ∧ c'.on (fun _ => false) = true := by
  rintro x c' ⟨os, -, -, rfl, q, -, -, rfl⟩
  exact ⟨rfl, rfl⟩
theorem owR_ne (bs : List UInt8) (p k : Int) (hk : 0 ≤ k) : ∃ x c', owR bs p k x c' := ⟨_, _, [], by simp, by simp, rfl, p, by omega, by omega, rfl⟩
theorem small_mem {L : List ByteArray} (h : L.all (fun s => decide (s.size ≤ 100)) = true) : ∀ s ∈ L, s.size ≤ 100 := fun s hs => by simpa using List.all_eq_true.1 h s hs
theorem tz35l : (tzero Tryd.prog 35).map (·.length) = some 2 := by kernel_rfl
theorem iz35 : (tzero Tryd.prog 35).isSome = true := by kernel_rfl
theorem owX_len (l : List Ow) : ∀ e ∈ l.map owX, e.length = 2 := by
  intro e he
  obtain ⟨s, -, rfl⟩ := List.mem_map.1 he
  rfl
attribute [local go_sem] List.size_toArray Int.toNat_zero Nat.sub_zero size_mk top_val eq_self datL X.dat u8min u8max i64min i64max stepT gdO aop ev lit litOk putF fzX_false putO upd app List.contains_nil List.elem_nil aBin aInt aStr aBool aLen lenTy aBuiltin aLoad aTake aTakeX aStore splice aSlice aBd look_cons look_nil lookC_cons lookC_nil by_s by_C start_s start_C X.cells X.cell List.all_cons List.all_nil Bool.and_self Bool.not_true Bool.not_false false_implies true_implies forall_const and_true true_and and_self implies_true not_false_eq_true Nat.zero_add Nat.add_zero List.getD_cons_zero List.getD_cons_succ List.map_cons List.map_nil Option.bind_some Option.map_some Option.map_none List.getElem?_cons_zero List.getElem?_cons_succ List.length_cons List.length_nil List.drop_zero List.drop_succ_cons List.take_succ_cons List.take_zero List.cons_append List.nil_append List.append_nil D.of List.length_map all_get_map Option.isSome_some and_false false_and Nat.lt_add_one Nat.zero_lt_succ decide_true decide_false aPart aSl2 Nat.lt_irrefl fzX litEs List.contains_cons List.elem_cons Bool.true_or Bool.or_true Bool.false_or Bool.or_false beq_self_eq_true
section
attribute [local go_sem] tsz9 tsz39 tel39 toNat_cast und9 caps1 sS
theorem ofL_spec (bs : List UInt8) (L : List ByteArray) (p : Int) (hp : 0 ≤ p) (hp2 : p ≤ 1000000) (hL : 0 < L.length) (hL2 : L.length ≤ 1000000) : Spec Tryd.prog 65 [.bx 0 0, .d (strs L)] [(0, rdC bs p)] 1 (fun x δ => ∃ c', δ = [(0, some c')] ∧ ofLR bs L p x c') := by
  refine Spec.of (fn := Tryd.f65) Tryd.func65 rfl (by kernel_rfl) (rs := [.tmp 4]) rfl 2 (by simp [Tryd.f65]) rfl (by simp [Cap.on, X.onL, X.on, rdC]) ?_
  intro hreal
  rintro ⟨P, T, L0, w0, ι0, C0, U0⟩ hP hT hU
  subst hP hT
  refine st ?_
  all_goals first
  | fail_if_success with_reducible refine atR 0 ?_
  | (
    refine rg 0 [] [some 4] 1 ?_
    all_goals refine qP ?_
    all_goals refine qE ?_)
  all_goals first
  | fail_if_success with_reducible refine atR 1 ?_
  | (
    refine rg 1 [] [some 5, some 6, some 7, some 8, some 9, some 10, some 11, some 4] 8 ?_
    all_goals iterate 4 refine qP ?_
    all_goals (
      refine qL_cons ?_
      intro R hR
      refine sm ?_
      refine call_box (pick_spec bs L.length p hp hp2 (by omega)) rfl rfl pickR_on (pickR_ne _ _ _) (a := 0) (by decide) cl trivial (fun h => h) ?_ ?_
      · exact ⟨.inl rfl, ⟨.inl rfl, trivial⟩⟩
      rintro _ _ ⟨r, rfl, hr0, hr1, rfl⟩
      try refine sm ?_
      all_goals (refine hR _ ?_; clear hR R))
    all_goals (
      refine qL_cons ?_
      intro R hR
      refine sm ?_
      refine ⟨⟨by omega, by omega⟩, ?_⟩
      intro s hs
      all_goals (refine hR _ ?_; clear hR R))
    all_goals iterate 2 refine qP ?_
    all_goals refine qE ?_)
  all_goals exact ret_box (c1 := rdC bs (p + 1)) [.d (.str s)] ⟨cl, trivial⟩ (fun _ => rfl) cl rfl ⟨_, List.mem_of_getElem? hs, rfl, rfl⟩

end
section
attribute [local go_sem] tsz9 tsz39 tel39 toNat_cast und9 zero35 tsz35 tfld35 tel25 tz9l iz9 tz35l iz35 aDst aSrc caps1 sS List.length_append St.frz X.frz X.frzL Cap.frz
theorem l30Path_spec (bs : List UInt8) (p : Int) (hp : 0 ≤ p) (hp2 : p ≤ 200000) : Spec Tryd.prog 66 [.bx 0 0] [(0, rdC bs p)] 1 (fun x δ => ∃ c', δ = [(0, some c')] ∧ szR bs p 1 x c') := by
  refine Spec.of (fn := Tryd.f66) Tryd.func66 rfl (by kernel_rfl) (rs := [.tmp 2]) rfl 2 (by simp [Tryd.f66]) rfl (by simp [Cap.on, X.onL, X.on, rdC]) ?_
  intro hreal
  rintro ⟨P, T, L0, w0, ι0, C0, U0⟩ hP hT hU
  subst hP hT
  refine st ?_
  all_goals first
  | fail_if_success with_reducible refine atR 0 ?_
  | (
    refine rg 0 [] [some 2] 1 ?_
    all_goals refine qP ?_
    all_goals refine qE ?_)
  all_goals first
  | fail_if_success with_reducible refine atR 1 ?_
  | (
    refine rg 1 [1] [some 3, some 4, some 5, some 2] 4 ?_
    all_goals iterate 2 refine qP ?_
    all_goals (
      refine qL_cons ?_
      intro R hR
      refine sm ?_
      refine call_box (ofL_spec bs [⟨#[97]⟩, ⟨#[98]⟩, ⟨#[100, 47, 101]⟩, ⟨#[100, 47, 102]⟩, ⟨#[103, 47, 104, 47, 105]⟩, ⟨#[103, 47, 107]⟩, ⟨#[122]⟩] (p) (by omega) (by omega) (by decide) (by decide)) rfl rfl ofLR_on (ofLR_ne _ _ _ _) (a := 0) (by decide) cl trivial (fun h => h) ?_ ?_
      · exact ⟨.inl rfl, ⟨.inl rfl, trivial⟩⟩
      rintro _ _ ⟨s, sm, rfl, rfl⟩
      try refine sm ?_
      all_goals (refine hR _ ?_; clear hR R))
    all_goals refine qP ?_
    all_goals refine qE ?_)
  all_goals exact ret_box (c1 := rdC bs (p + 1)) [.d (.str s)] ⟨cl, trivial⟩ (fun _ => rfl) cl rfl ⟨_, small_mem (by decide) _ sm, rfl, _, by omega, by omega, rfl⟩

end
section
attribute [local go_sem] tsz9 tsz39 tel39 toNat_cast und9 zero35 tsz35 tfld35 tel25 tz9l iz9 tz35l iz35 aDst aSrc caps1 sS List.length_append St.frz X.frz X.frzL Cap.frz
theorem l30AnyPath_spec (bs : List UInt8) (p : Int) (hp : 0 ≤ p) (hp2 : p ≤ 100000) : Spec Tryd.prog 38 [.bx 0 0] [(0, rdC bs p)] 1 (fun x δ => ∃ c', δ = [(0, some c')] ∧ szR bs p 2 x c') := by
  refine Spec.of (fn := Tryd.f38) Tryd.func38 rfl (by kernel_rfl) (rs := [.tmp 2]) rfl 2 (by simp [Tryd.f38]) rfl (by simp [Cap.on, X.onL, X.on, rdC]) ?_
  intro hreal
  rintro ⟨P, T, L0, w0, ι0, C0, U0⟩ hP hT hU
  subst hP hT
  refine st ?_
  all_goals first
  | fail_if_success with_reducible refine atR 0 ?_
  | (
    refine rg 0 [] [some 2] 1 ?_
    all_goals refine qP ?_
    all_goals refine qE ?_)
  all_goals first
  | fail_if_success with_reducible refine atR 1 ?_
  | (
    refine rg 1 [] [some 3, some 4, some 5] 3 ?_
    all_goals refine qP ?_
    all_goals (
      refine qL_cons ?_
      intro R hR
      refine sm ?_
      refine call_box (pick_spec bs 6 (p) (by omega) (by omega) (by omega)) rfl rfl pickR_on (pickR_ne _ _ _) (a := 0) (by decide) cl trivial (fun h => h) ?_ ?_
      · exact ⟨.inl rfl, ⟨.inl rfl, trivial⟩⟩
      rintro _ _ ⟨r, rfl, r0, r1, rfl⟩
      try refine sm ?_
      all_goals (refine hR _ ?_; clear hR R))
    all_goals refine qP ?_
    all_goals refine qE ?_)
  all_goals first
  | fail_if_success with_reducible refine atC 5 ?_
  | (
    refine cn 5 ?_ ?_ <;> intro hc5 <;> try (cases hc5; done)
    all_goals refine st ?_)
  all_goals first
  | fail_if_success with_reducible refine atR 2 ?_
  | (
    refine rg 2 [1] [some 6, some 7, some 8, some 2] 4 ?_
    all_goals iterate 2 refine qP ?_
    all_goals (
      refine qL_cons ?_
      intro R hR
      refine sm ?_
      refine call_box (ofL_spec bs [(⟨#[]⟩ : ByteArray), ⟨#[100]⟩, ⟨#[103]⟩, ⟨#[65]⟩, ⟨#[97, 47]⟩, ⟨#[97, 47, 98, 47, 99, 47, 100]⟩, ⟨#[116, 111, 111, 108, 111, 110, 103]⟩, ⟨#[103, 47, 104]⟩, ⟨#[100, 47, 101, 47, 102]⟩] (p + 1) (by omega) (by omega) (by decide) (by decide)) rfl rfl ofLR_on (ofLR_ne _ _ _ _) (a := 0) (by decide) cl trivial (fun h => h) ?_ ?_
      · exact ⟨.inl rfl, ⟨.inl rfl, trivial⟩⟩
      rintro _ _ ⟨s, sm, rfl, rfl⟩
      try refine sm ?_
      all_goals (refine hR _ ?_; clear hR R))
    all_goals refine qP ?_
    all_goals refine qE ?_)
  all_goals first
  | fail_if_success with_reducible refine atR 3 ?_
  | (
    refine rg 3 [] [some 9, some 10, some 2] 3 ?_
    all_goals refine qP ?_
    all_goals (
      refine qL_cons ?_
      intro R hR
      refine sm ?_
      refine call_box (l30Path_spec bs (p + 1) (by omega) (by omega)) rfl rfl szR_on (szR_ne _ _ _ (by omega)) (a := 0) (by decide) cl trivial (fun h => h) ?_ ?_
      · exact ⟨.inl rfl, trivial⟩
      rintro _ _ ⟨s, hsz, rfl, q, hq1, hq2, rfl⟩
      try refine sm ?_
      all_goals (refine hR _ ?_; clear hR R))
    all_goals refine qP ?_
    all_goals refine qE ?_)
  all_goals first
  | exact ret_box (c1 := rdC bs (p + 1 + 1)) [.d (.str s)] ⟨cl, trivial⟩ (fun _ => rfl) cl rfl ⟨_, small_mem (by decide) _ sm, rfl, _, by omega, by omega, rfl⟩
  | exact ret_box (c1 := rdC bs q) [.d (.str s)] ⟨cl, trivial⟩ (fun _ => rfl) cl rfl ⟨_, hsz, rfl, _, by omega, by omega, rfl⟩

end
section
attribute [local go_sem] tsz9 tsz39 tel39 toNat_cast und9 zero35 tsz35 tfld35 tel25 tz9l iz9 tz35l iz35 aDst aSrc caps1 sS List.length_append St.frz X.frz X.frzL Cap.frz
theorem l30Owners_spec (bs : List UInt8) (p : Int) (hp : 0 ≤ p) (hp2 : p ≤ 100000) : Spec Tryd.prog 37 [.bx 0 0] [(0, rdC bs p)] 1 (fun x δ => ∃ c', δ = [(0, some c')] ∧ owR bs p 20 x c') := by
  refine Spec.of (fn := Tryd.f37) Tryd.func37 rfl (by kernel_rfl) (rs := [.tmp 2]) rfl 2 (by simp [Tryd.f37]) rfl (by simp [Cap.on, X.onL, X.on, rdC]) ?_
  intro hreal
  rintro ⟨P, T, L0, w0, ι0, C0, U0⟩ hP hT hU
  subst hP hT
  refine st ?_
  all_goals first
  | fail_if_success with_reducible refine atR 0 ?_
  | (
    refine rg 0 [] [some 2] 1 ?_
    all_goals refine qP ?_
    all_goals refine qE ?_)
  all_goals first
  | fail_if_success with_reducible refine atR 1 ?_
  | (
    refine rg 1 [] [some 6, some 3] 2 ?_
    all_goals iterate 2 refine qP ?_
    all_goals refine qE ?_)
  all_goals first
  | fail_if_success with_reducible refine atR 2 ?_
  | (
    refine rg 2 [0] [some 7, some 4] 2 ?_
    all_goals iterate 2 refine qP ?_
    all_goals refine qE ?_)
  all_goals first
  | fail_if_success with_reducible refine atR 3 ?_
  | (
    refine rg 3 [] [some 5] 1 ?_
    all_goals refine qP ?_
    all_goals refine qE ?_)
  all_goals first
  | fail_if_success with_reducible refine AW.rounds (α := (Nat × List Ow × Int)) ?_ ?_ ?_ ?_ ?_ ?_ ?_ ?_
  | (
    refine AW.rounds (α := (Nat × List Ow × Int)) (fun z => z.1 ≤ 5 ∧ z.2.1.length ≤ z.1 ∧ p ≤ z.2.2 ∧ z.2.2 ≤ p + 2 * z.1 ∧ (∀ o ∈ z.2.1, o.path.size ≤ 100)) (fun z => St.by [(0, .bx 0 0), (3, .vec 3 2 0 z.2.1.length), (4, .d (strs [⟨#[97]⟩, ⟨#[98]⟩, ⟨#[100]⟩, ⟨#[100, 47, 101]⟩, ⟨#[103]⟩])), (5, .d (.int .i64 z.1))] [(0, rdC bs z.2.2), (3, .vec 35 2 (z.2.1.map owX))]) (fun z => 5 - z.1) 8 (0, [], p) ?_ ?_ ?_
    · exact ⟨by simp, by simp, by simp only; omega, by simp only; omega, by simp⟩
    · refine Vw.to [] _ _ (vU hU) ?_ ?_ (by simp [tauL])
      · refine vx (vx (vd (vw_d ?_ (trivial))))
        · first
          | exact cl2
          | (
            refine sm2 ?_
            all_goals (
             rfl))
      · exact ⟨⟨by simp, rfl, cl3⟩, ⟨by simp, rfl, cl3⟩, trivial⟩
    · intro z hJ
      refine st ?_
      obtain ⟨hJ1, hJ2, hJ3, hJ4, hJ5⟩ := hJ
      all_goals first
      | fail_if_success with_reducible refine atR 4 ?_
      | (
        refine rg 4 [] [some 8, some 9, some 10, some 11] 4 ?_
        all_goals iterate 4 refine qP ?_
        all_goals refine qE ?_)
      all_goals first
      | fail_if_success with_reducible refine atC 11 ?_
      | (
        refine cn 11 ?_ ?_ <;> intro hc11 <;> try (cases hc11; done)
        all_goals refine st ?_)
      all_goals first
      | fail_if_success with_reducible refine atR 6 ?_
      | (
        refine rg 6 [] [some 14, some 15, some 16] 3 ?_
        all_goals refine qP ?_
        all_goals (
          refine qL_cons ?_
          intro R hR
          refine sm ?_
          refine call_box (pick_spec bs 2 (z.2.2) (by omega) (by omega) (by omega)) rfl rfl pickR_on (pickR_ne _ _ _) (a := 0) (by decide) cl trivial (fun h => h) ?_ ?_
          · exact ⟨.inl rfl, ⟨.inl rfl, trivial⟩⟩
          rintro _ _ ⟨r, rfl, r0, r1, rfl⟩
          try refine sm ?_
          all_goals (refine hR _ ?_; clear hR R))
        all_goals refine qP ?_
        all_goals refine qE ?_)
      all_goals first
      | fail_if_success with_reducible refine atC 16 ?_
      | (
        refine cn 16 ?_ ?_ <;> intro hc16 <;> try (cases hc16; done)
        all_goals refine st ?_)
      all_goals first
      | fail_if_success with_reducible refine atR 7 ?_
      | (
        refine rgW 7 [6, 9] [some 17, some 18, some 19, some 20, some 21, some 22, some 23, some 24, some 25, some 26, some 27, some 3] 12 13 [(7, [0]), (10, [3])] ?_
        intro av wr hav hwr
        have hf7_0 := avD 7 0 hav
        have hf10_3 := avD 10 3 hav
        have hw7_0 := wrD 7 0 hwr
        have hw10_3 := wrD 10 3 hwr
        all_goals iterate 3 refine qP ?_
        all_goals (
          refine qL_cons ?_
          intro R hR
          simp only [go_sem, reduceIte, reduceCtorEq, Nat.reduceAdd, Nat.reduceEqDiff, Nat.reduceLeDiff, Nat.reduceLT, Nat.reduceSub, Int.reduceLE, Int.reduceNeg, Int.reduceLT, hf7_0, hf10_3, hw7_0, hw10_3]
          refine ⟨⟨by omega, by omega⟩, ?_⟩
          intro c hc
          obtain ⟨y, hy, rfl⟩ := row_get (ss := [⟨#[97]⟩, ⟨#[98]⟩, ⟨#[100]⟩, ⟨#[100, 47, 101]⟩, ⟨#[103]⟩]) hc
          refine ⟨rfl, ?_⟩
          all_goals (refine hR _ ?_; clear hR R))
        all_goals (
          refine qL_cons ?_
          intro R hR
          simp only [go_sem, reduceIte, reduceCtorEq, Nat.reduceAdd, Nat.reduceEqDiff, Nat.reduceLeDiff, Nat.reduceLT, Nat.reduceSub, Int.reduceLE, Int.reduceNeg, Int.reduceLT, hf7_0, hf10_3, hw7_0, hw10_3]
          all_goals (refine hR _ ?_; clear hR R))
        all_goals iterate 2 refine qP ?_
        all_goals (
          refine qL_cons ?_
          intro R hR
          simp only [go_sem, reduceIte, reduceCtorEq, Nat.reduceAdd, Nat.reduceEqDiff, Nat.reduceLeDiff, Nat.reduceLT, Nat.reduceSub, Int.reduceLE, Int.reduceNeg, Int.reduceLT, hf7_0, hf10_3, hw7_0, hw10_3]
          refine call_box (ofL_spec bs [⟨#[97, 110, 110]⟩, ⟨#[98, 111, 98]⟩, ⟨#[99, 105, 100]⟩] (z.2.2 + 1) (by omega) (by omega) (by decide) (by decide)) rfl rfl ofLR_on (ofLR_ne _ _ _ _) (a := 0) (by decide) cl (by simp only [hw7_0]) (by simp only [hf7_0]; exact fun h => h) ?_ ?_
          · exact ⟨.inl rfl, ⟨.inl rfl, trivial⟩⟩
          rintro _ _ ⟨w, wm, rfl, rfl⟩
          try refine sm ?_
          all_goals (refine hR _ ?_; clear hR R))
        all_goals iterate 2 refine qP ?_
        all_goals (
          refine qL_cons ?_
          intro R hR
          simp only [go_sem, reduceIte, reduceCtorEq, Nat.reduceAdd, Nat.reduceEqDiff, Nat.reduceLeDiff, Nat.reduceLT, Nat.reduceSub, Int.reduceLE, Int.reduceNeg, Int.reduceLT, hf7_0, hf10_3, hw7_0, hw10_3]
          refine ⟨by simp, by omega, ?_⟩
          all_goals (refine hR _ ?_; clear hR R))
        all_goals refine qP ?_
        all_goals refine qE ?_
        all_goals clear hf7_0 hf10_3 hw7_0 hw10_3 hav hwr wr av)
      all_goals first
      | fail_if_success with_reducible refine atR 5 ?_
      | (
        refine rg 5 [] [some 12, some 13, some 5] 3 ?_
        all_goals refine qP ?_
        all_goals (
          refine qL_cons ?_
          intro R hR
          refine sm ?_
          rw [wrap64 (by omega) (by omega)]
          all_goals (refine hR _ ?_; clear hR R))
        all_goals refine qP ?_
        all_goals refine qE ?_)
      all_goals first
      | fail_if_success with_reducible refine ⟨(z.1 + 1, z.2.1, z.2.2), ?_, ?_, ?_⟩
      | (
          refine ⟨(z.1 + 1, z.2.1, z.2.2 + 1), ?_, ?_, ?_⟩
          · refine ⟨by simp only; omega, by simp; omega, by simp only; omega, by simp only; omega, ?_⟩
            first
            | exact hJ5
            | (
              intro o ho
              rcases List.mem_append.1 ho with h | h
              · exact hJ5 o h
              · obtain rfl := List.mem_singleton.1 h
                exact small_mem (by decide) _ (List.mem_of_getElem? hy))
          · simp only; omega
          · refine Vw.to [] _ _ (fun n hn => by have := hU n hn; have h0 : n = 0 := (by omega); subst h0; exact ⟨by decide, rfl⟩) ?_ ?_ (by simp [tauL])
            · refine vx (vw_x ?_ rfl (vd (vw_d ?_ trivial)))
              · first
                | exact cl2
                | (
                  refine sm2 ?_
                  simp; done)
              · first
                | exact cl2
                | (
                  refine sm2 ?_
                  congr 1)
            · refine ⟨⟨by simp, rfl, cl3⟩, ⟨by simp, rfl, ?_⟩, trivial⟩
              first
              | exact cl3
              | (refine sm3 ?_
                 simp [sS, owX]; done)
              | (simp [tauL, Cap.ren, upd, look, lookC, St.by, X.renL, X.ren, sS, putF, owX]; done))
      | (
          refine ⟨(z.1 + 1, z.2.1 ++ [⟨y, w⟩], z.2.2 + 1 + 1), ?_, ?_, ?_⟩
          · refine ⟨by simp only; omega, by simp; omega, by simp only; omega, by simp only; omega, ?_⟩
            first
            | exact hJ5
            | (
              intro o ho
              rcases List.mem_append.1 ho with h | h
              · exact hJ5 o h
              · obtain rfl := List.mem_singleton.1 h
                exact small_mem (by decide) _ (List.mem_of_getElem? hy))
          · simp only; omega
          · refine Vw.to [(3, 25)] _ _ (fun n hn => by have := hU n hn; have h0 : n = 0 := (by omega); subst h0; exact ⟨by decide, rfl⟩) ?_ ?_ (by simp [tauL])
            · refine vx (vw_x ?_ rfl (vd (vw_d ?_ trivial)))
              · first
                | exact cl2
                | (
                  refine sm2 ?_
                  simp; done)
              · first
                | exact cl2
                | (
                  refine sm2 ?_
                  congr 1)
            · refine ⟨⟨by simp, rfl, cl3⟩, ⟨by simp, rfl, ?_⟩, trivial⟩
              first
              | exact cl3
              | (refine sm3 ?_
                 simp [sS, owX]; done)
              | (simp [tauL, Cap.ren, upd, look, lookC, St.by, X.renL, X.ren, sS, putF, owX]; done))
      all_goals first
      | fail_if_success with_reducible refine atR 8 ?_
      | (
        refine rg 8 [] [some 28, some 29, some 30, some 31, some 32, some 33, some 34, some 35] 8 ?_
        all_goals iterate 4 refine qP ?_
        all_goals first | refine qU 31 ?_ | (refine qS 31 ?_ ?_ <;> intro hg8_3 <;> try (cases hg8_3; done))
        all_goals refine qP ?_
        all_goals first
        | (
          refine qL_cons ?_
          intro R hR
          refine sm ?_
          refine call_box (pick_spec bs 14 (z.2.2) (by omega) (by omega) (by omega)) rfl rfl pickR_on (pickR_ne _ _ _) (a := 0) (by decide) cl trivial (fun h => h) ?_ ?_
          · exact ⟨.inl rfl, ⟨.inl rfl, trivial⟩⟩
          rintro _ _ ⟨r2, rfl, r20, r21, rfl⟩
          try refine sm ?_
          refine hR _ ?_
          clear hR R)
        | refine qP ?_
        all_goals iterate 2 refine qP ?_
        all_goals refine qE ?_)
      all_goals first
      | fail_if_success with_reducible refine atC 35 ?_
      | (
        refine cn 35 ?_ ?_ <;> intro hc35 <;> try (cases hc35; done)
        all_goals refine st ?_)
      all_goals first
      | fail_if_success with_reducible refine atR 9 ?_
      | (
        refine rg 9 [] [some 36, some 37, some 38, none] 4 ?_
        all_goals refine qP ?_
        all_goals (
          refine qL_cons ?_
          intro R hR
          refine sm ?_
          refine ⟨by omega, ?_⟩
          all_goals (refine hR _ ?_; clear hR R))
        all_goals refine qP ?_
        all_goals (
          refine qL_cons ?_
          intro R hR
          refine sm ?_
          refine ⟨by omega, ?_⟩
          intro o ho
          all_goals (refine hR _ ?_; clear hR R))
        all_goals refine qE ?_)
      all_goals first
      | fail_if_success with_reducible refine atR 10 ?_
      | (
        refine rg 10 [] [some 39, some 2] 2 ?_
        all_goals iterate 2 refine qP ?_
        all_goals refine qE ?_)
      all_goals first
      | exact ret_boxV (R := owR bs p 20) (c1 := rdC bs z.2.2) (Vw.frz (ty := 35) 3 2 (z.2.1.map owX) cl) [.d (.of owX z.2.1)] ⟨cl, trivial⟩ (fun _ => rfl) cl rfl ⟨_, hJ5, by omega, rfl, _, by omega, by omega, rfl⟩
      | exact ret_boxV (R := owR bs p 20) (c1 := rdC bs (z.2.2 + 1)) (Vw.frz (ty := 35) 3 2 (z.2.1.map owX) cl) [.d (.of owX z.2.1)] ⟨cl, trivial⟩ (fun _ => rfl) cl rfl ⟨_, hJ5, by omega, rfl, _, by omega, by omega, rfl⟩
      | (
        have hset : (z.2.1.map owX).set 0 (splice (owX o) 1 [.str ByteArray.empty]) = (z.2.1.set 0 ⟨o.path, ByteArray.empty⟩).map owX := by
          rw [List.map_set]
          rfl
        refine ret_boxV (R := owR bs p 20) (c1 := rdC bs (z.2.2 + 1)) (Vw.frz (ty := 35) 3 2 ((z.2.1.set 0 ⟨o.path, ByteArray.empty⟩).map owX) ?_) [.d (.of owX (z.2.1.set 0 ⟨o.path, ByteArray.empty⟩))] ⟨?_, trivial⟩ (fun _ => rfl) ?_ rfl ⟨_, ?_, by simp; omega, rfl, _, by omega, by omega, rfl⟩
        · refine sm ?_
          rw [← hset]
          rfl
        · refine sm ?_
          simp [List.length_set]
        · exact cl
        · intro q hq
          rcases List.mem_or_eq_of_mem_set hq with h | h
          · exact hJ5 q h
          · subst h
            exact hJ5 o (List.mem_of_getElem? ho)))
  all_goals first
  | exact ret_boxV (R := owR bs p 20) (c1 := rdC bs z.2.2) (Vw.frz (ty := 35) 3 2 (z.2.1.map owX) cl) [.d (.of owX z.2.1)] ⟨cl, trivial⟩ (fun _ => rfl) cl rfl ⟨_, hJ5, by omega, rfl, _, by omega, by omega, rfl⟩
  | exact ret_boxV (R := owR bs p 20) (c1 := rdC bs (z.2.2 + 1)) (Vw.frz (ty := 35) 3 2 (z.2.1.map owX) cl) [.d (.of owX z.2.1)] ⟨cl, trivial⟩ (fun _ => rfl) cl rfl ⟨_, hJ5, by omega, rfl, _, by omega, by omega, rfl⟩
  | (
    have hset : (z.2.1.map owX).set 0 (splice (owX o) 1 [.str ByteArray.empty]) = (z.2.1.set 0 ⟨o.path, ByteArray.empty⟩).map owX := by
      rw [List.map_set]
      rfl
    refine ret_boxV (R := owR bs p 20) (c1 := rdC bs (z.2.2 + 1)) (Vw.frz (ty := 35) 3 2 ((z.2.1.set 0 ⟨o.path, ByteArray.empty⟩).map owX) ?_) [.d (.of owX (z.2.1.set 0 ⟨o.path, ByteArray.empty⟩))] ⟨?_, trivial⟩ (fun _ => rfl) ?_ rfl ⟨_, ?_, by simp; omega, rfl, _, by omega, by omega, rfl⟩
    · refine sm ?_
      rw [← hset]
      rfl
    · refine sm ?_
      simp [List.length_set]
    · exact cl
    · intro q hq
      rcases List.mem_or_eq_of_mem_set hq with h | h
      · exact hJ5 q h
      · subst h
        exact hJ5 o (List.mem_of_getElem? ho))

end
section
attribute [local go_sem] tsz9 tsz39 tel39 toNat_cast und9 zero35 tsz35 tfld35 tel25 tz9l iz9 tz35l iz35 aDst aSrc caps1 sS List.length_append St.frz X.frz X.frzL Cap.frz
theorem DrawOwnerOf_spec (bs : List UInt8) : FunE Tryd.prog 14 [.d (.of bX bs)] (fun x => ∃ os : List Ow, ∃ path : ByteArray, (∀ o ∈ os, o.path.size ≤ 100) ∧ os.length ≤ 5 ∧ path.size ≤ 100 ∧ x = .tup [.d (.of owX os), .d (.str path)]) := by
  refine FunE.of ?_ rfl (by rintro x ⟨os, path, -, -, -, rfl⟩; rfl)
  refine Spec.of (fn := Tryd.f14) Tryd.func14 rfl (by kernel_rfl) (rs := [.tmp 2, .tmp 3]) rfl 1 (by simp [Tryd.f14]) rfl (by simp) ?_
  intro hreal
  rintro ⟨P, T, L0, w0, ι0, C0, U0⟩ hP hT hU
  subst hP hT
  refine st ?_
  all_goals first
  | fail_if_success with_reducible refine atR 0 ?_
  | (
    refine rg 0 [] [some 2, some 3] 2 ?_
    all_goals iterate 2 refine qP ?_
    all_goals refine qE ?_)
  all_goals first
  | fail_if_success with_reducible refine atR 1 ?_
  | (
    refine rg 1 [] [some 6, some 7, some 4] 3 ?_
    all_goals refine qP ?_
    all_goals (
      refine qL_cons ?_
      intro R hR
      refine sm ?_
      refine call_new (l30Open_spec bs) ?_ ?_
      · exact ⟨.inl rfl, trivial⟩
      refine sm ?_
      all_goals (refine hR _ ?_; clear hR R))
    all_goals refine qP ?_
    all_goals refine qE ?_)
  all_goals first
  | fail_if_success with_reducible refine atR 2 ?_
  | (
    refine rg 2 [] [some 8, some 9, some 5] 3 ?_
    all_goals refine qP ?_
    all_goals (
      refine qL_cons ?_
      intro R hR
      refine sm ?_
      refine call_box (l30Owners_spec (cutB bs) 0 (by omega) (by omega)) rfl rfl owR_on (owR_ne _ _ _ (by omega)) (a := 4) (by decide) cl trivial (fun h => h) ?_ ?_
      · exact ⟨.inl rfl, trivial⟩
      rintro _ _ ⟨os, hos, hol, rfl, q, hq1, hq2, rfl⟩
      try refine sm ?_
      all_goals (refine hR _ ?_; clear hR R))
    all_goals refine qP ?_
    all_goals refine qE ?_)
  all_goals first
  | fail_if_success with_reducible refine atR 3 ?_
  | (
    refine rg 3 [] [some 10, some 11, some 12, some 2, some 3] 5 ?_
    all_goals iterate 2 refine qP ?_
    all_goals (
      refine qL_cons ?_
      intro R hR
      refine sm ?_
      refine call_box (l30AnyPath_spec (cutB bs) q (by omega) (by omega)) rfl rfl szR_on (szR_ne _ _ _ (by omega)) (a := 4) (by decide) cl trivial (fun h => h) ?_ ?_
      · exact ⟨.inl rfl, trivial⟩
      rintro _ _ ⟨path, hpath, rfl, q2, hq3, hq4, rfl⟩
      try refine sm ?_
      all_goals (refine hR _ ?_; clear hR R))
    all_goals iterate 2 refine qP ?_
    all_goals refine qE ?_)
  all_goals exact ⟨_, _, Vw.refl _ _ _, [], [.d (.of owX os), .d (.str path)], fun n hn => by simp at hn, ⟨cl, cl, trivial⟩, rfl, ⟨os, path, hos, hol, hpath, rfl⟩, rfl⟩

end
end Go.Proofs.YtkbnkcdaiahoeaaDoor
