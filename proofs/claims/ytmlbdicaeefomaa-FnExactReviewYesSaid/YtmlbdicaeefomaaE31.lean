/- a number drawn from a code. No condition. -/
import Derived.Test.YtmlbdicaeefomaaE30
import Derived.Test.YtmlbdicaeefomaaAxE
namespace Go.Proofs.Ytmlbdicaeefomaa
open Go Go.RowKit
set_option maxRecDepth 100000
set_option linter.unusedSimpArgs false
set_option linter.unusedVariables false
theorem tsz31 : tsz Try.prog 31 = some (false, 1) := by kernel_rfl
theorem tsz5 : tsz Try.prog 5 = some (false, 1) := by kernel_rfl
theorem tsz3 : tsz Try.prog 3 = some (false, 1) := by kernel_rfl
theorem tsz84 : tsz Try.prog 84 = some (true, 2) := by kernel_rfl
theorem tfld84 : tfld Try.prog 84 = some [(0, 31), (1, 3)] := by kernel_rfl
theorem tel31 : telem Try.prog 31 = some (5, 1, 1) := by kernel_rfl
theorem zero84 : tzero Try.prog 84 = some [.nil, .d (.int .i64 0)] := by kernel_rfl
theorem und3 : Try.prog.underlying 3 = some (.int .i64) := by kernel_rfl
theorem und5 : Try.prog.underlying 5 = some (.int .u8) := by kernel_rfl
def bX (c : UInt8) : List D := [.int .u8 c.toNat]
/-- The reader of a code: its bytes, how many were read. -/
def rdC (bs : List UInt8) (p : Int) : Cap := .box 84 [.d (.of bX bs), .d (.int .i64 p)]
theorem wrapU {n : Int} (h1 : -9223372036854775808 ≤ n) (h2 : n ≤ 9223372036854775807) : IntKind.i64.wrap n = n := wrap64 h1 h2
theorem tdiv_bd {a b : Int} (ha : 0 ≤ a) (hb : 0 < b) : 0 ≤ a.tdiv b ∧ a.tdiv b ≤ a := by
  rw [Int.tdiv_eq_ediv_of_nonneg ha]
  exact ⟨Int.ediv_nonneg ha (by omega), Int.ediv_le_self _ ha⟩
theorem tmod_bd {a b : Int} (ha : 0 ≤ a) (hb : 0 < b) : 0 ≤ a.tmod b ∧ a.tmod b < b := by
  rw [Int.tmod_eq_emod_of_nonneg ha]
  exact ⟨Int.emod_nonneg _ (by omega), Int.emod_lt_of_pos _ hb⟩
theorem bX_get {bs : List UInt8} {i : Nat} {c : List D} (h : (bs.map bX)[i]? = some c) : ∃ y, bs[i]? = some y ∧ c = bX y := by
  rw [List.getElem?_map] at h
  cases hs : bs[i]? with
  | none => rw [hs] at h; cases h
  | some y => rw [hs] at h; exact ⟨y, rfl, (Option.some.inj h).symm⟩
def pickR (bs : List UInt8) (n p : Int) : X → Cap → Prop := fun x c' => ∃ r : Int, x = .d (.int .i64 r) ∧ 0 ≤ r ∧ (r < n ∨ r = 0) ∧ c' = rdC bs (p + 1)
attribute [local go_sem] List.size_toArray Int.toNat_zero Nat.sub_zero size_mk top_val eq_self datL X.dat u8min u8max i64min i64max stepT gdO aop ev lit litOk putF fzX_false putO upd app List.contains_nil List.elem_nil aBin aInt aStr aBool aLen lenTy aBuiltin aLoad aTake aTakeX aStore splice aSlice aBd look_cons look_nil lookC_cons lookC_nil by_s by_C start_s start_C X.cells X.cell List.all_cons List.all_nil Bool.and_self Bool.not_true Bool.not_false false_implies true_implies forall_const and_true true_and and_self implies_true not_false_eq_true Nat.zero_add Nat.add_zero List.getD_cons_zero List.getD_cons_succ List.map_cons List.map_nil Option.bind_some Option.map_some Option.map_none List.getElem?_cons_zero List.getElem?_cons_succ List.length_cons List.length_nil List.drop_zero List.drop_succ_cons List.take_succ_cons List.take_zero List.cons_append List.nil_append List.append_nil D.of List.length_map all_get_map Option.isSome_some and_false false_and Nat.lt_add_one Nat.zero_lt_succ decide_true decide_false fzX litEs List.contains_cons List.elem_cons Bool.true_or Bool.or_true Bool.false_or Bool.or_false beq_self_eq_true
section
attribute [local go_sem] tsz31 tsz5 tsz3 tsz84 tfld84 tel31 zero84 und3 und5 toNat_cast und9 rdC bX caps1
theorem pick_spec (bs : List UInt8) (n p : Int) (hp : 0 ≤ p) (hp2 : p ≤ 1000000) (hn : n ≤ 1000000) : Spec Try.prog 68 [.bx 0 0, .d (.int .i64 n)] [(0, rdC bs p)] 1 (fun x δ => ∃ c', δ = [(0, some c')] ∧ pickR bs n p x c') := by
  refine Spec.of (fn := Try.f68) Try.func68 rfl (by kernel_rfl) (rs := [.tmp 4]) rfl 2 (by simp [Try.f68]) rfl (by simp [Cap.on, X.onL, X.on, rdC]) ?_
  intro hreal
  rintro ⟨P, T, L0, w0, ι0, C0, U0⟩ hP hT hU
  subst hP hT
  refine st ?_
  have hlen : True := trivial
  all_goals first
  | fail_if_success with_reducible refine atR 0 ?_
  | (
    refine rg 0 [] [some 4] 1 ?_
    all_goals refine qP ?_
    all_goals refine qE ?_)
  all_goals first
  | fail_if_success with_reducible refine atR 1 ?_
  | (
    refine rg 1 [] [some 7, some 8, some 9, some 10, some 11, some 12, some 13, some 14, none] 9 ?_
    all_goals iterate 5 refine qP ?_
    all_goals (
      refine qL_cons ?_
      intro R hR
      refine sm ?_
      simp (disch := omega) only [wrap64]
      all_goals (refine hR _ ?_; clear hR R))
    all_goals iterate 3 refine qP ?_
    all_goals refine qE ?_)
  all_goals first
  | fail_if_success with_reducible refine atR 2 ?_
  | (
    refine rg 2 [] [some 15, some 16, some 17, some 18, some 19, some 20, some 21, some 22, some 23, some 24] 10 ?_
    all_goals iterate 3 refine qP ?_
    all_goals first | refine qU 17 ?_ | (refine qS 17 ?_ ?_ <;> intro hg2_2 <;> try (cases hg2_2; done))
    all_goals iterate 7 refine qP ?_
    all_goals refine qE ?_)
  all_goals first
  | fail_if_success with_reducible refine atC 24 ?_
  | (
    refine cn 24 ?_ ?_ <;> intro hc24 <;> try (cases hc24; done)
    all_goals refine st ?_)
  all_goals first
  | fail_if_success with_reducible refine atR 3 ?_
  | (
    refine rg 3 [] [some 4] 1 ?_
    all_goals refine qP ?_
    all_goals refine qE ?_)
  all_goals first
  | fail_if_success with_reducible refine atR 4 ?_
  | (
    refine rg 4 [] [some 25, some 26, some 27, some 28, some 29, some 5] 6 ?_
    all_goals iterate 4 refine qP ?_
    all_goals (
      refine qL_cons ?_
      intro R hR
      refine sm ?_
      simp (disch := omega) only [wrap64]
      rw [show p + 1 - 1 = p by omega]
      all_goals (refine hR _ ?_; clear hR R))
    all_goals refine qP ?_
    all_goals refine qE ?_)
  all_goals first
  | fail_if_success with_reducible refine atR 5 ?_
  | (
    refine rg 5 [] [some 30, some 31, some 32, some 33, some 34, some 35, some 36] 7 ?_
    all_goals iterate 7 refine qP ?_
    all_goals refine qE ?_)
  all_goals first
  | fail_if_success with_reducible refine atC 36 ?_
  | (
    refine cn 36 ?_ ?_ <;> intro hc36 <;> try (cases hc36; done)
    all_goals refine st ?_)
  all_goals try have q1 := tmod_bd (a := p) (b := (bs.length : Int)) (by omega) (by omega)
  all_goals try have q2 := tmod_bd (a := p * 7 + 3) (b := (bs.length : Int)) (by omega) (by omega)
  all_goals try have q3 := tdiv_bd (a := p) (b := (bs.length : Int)) (by omega) (by omega)
  all_goals first
  | fail_if_success with_reducible refine atR 6 ?_
  | (
    refine rg 6 [] [some 37, some 38, some 39, some 40, some 41, some 42, some 43, some 44, some 45, some 46, some 4] 11 ?_
    all_goals iterate 5 refine qP ?_
    all_goals (
      refine qL_cons ?_
      intro R hR
      refine sm ?_
      refine ⟨⟨by omega, by omega⟩, ?_⟩
      intro x hx
      have hxb : (x.toNat : Int) ≤ 255 := by have := x.toNat_lt; omega
      all_goals (refine hR _ ?_; clear hR R))
    all_goals iterate 3 refine qP ?_
    all_goals (
      refine qL_cons ?_
      intro R hR
      refine sm ?_
      refine ⟨by omega, ?_⟩
      have qq := tmod_bd (a := (x.toNat : Int)) (b := n) (by omega) (by omega)
      simp (disch := omega) only [wrap64]
      all_goals (refine hR _ ?_; clear hR R))
    all_goals refine qP ?_
    all_goals refine qE ?_)
  all_goals first
  | fail_if_success with_reducible refine atR 7 ?_
  | (
    refine rgD 7 [] [some 47, some 48, some 49, some 50, some 51, some 52, some 53, some 54, some 55, some 56, some 57, some 58, some 59, some 60, some 61, some 62, some 63, some 64, some 65, some 66, some 67, some 68, some 69, some 70, some 71, some 72, some 73, some 74, some 75, some 76, some 77, some 78, some 79, some 80, some 81, some 82, some 83, some 84, some 85, some 86, some 87, some 88, some 89, some 90, some 91, some 6] 46 47 ?_
    intro av hav
    have hf0 := freeD 0 hav
    all_goals iterate 3 refine qP ?_
    all_goals (
      refine qL_cons ?_
      intro R hR
      simp only [go_sem, reduceIte, reduceCtorEq, Nat.reduceAdd, Nat.reduceEqDiff, Nat.reduceLeDiff, Nat.reduceLT, Nat.reduceSub, Int.reduceLE, Int.reduceNeg, Int.reduceLT, hf0]
      all_goals (refine hR _ ?_; clear hR R))
    all_goals iterate 4 refine qP ?_
    all_goals (
      refine qL_cons ?_
      intro R hR
      simp only [go_sem, reduceIte, reduceCtorEq, Nat.reduceAdd, Nat.reduceEqDiff, Nat.reduceLeDiff, Nat.reduceLT, Nat.reduceSub, Int.reduceLE, Int.reduceNeg, Int.reduceLT, hf0]
      all_goals (refine hR _ ?_; clear hR R))
    all_goals refine qP ?_
    all_goals (
      refine qL_cons ?_
      intro R hR
      simp only [go_sem, reduceIte, reduceCtorEq, Nat.reduceAdd, Nat.reduceEqDiff, Nat.reduceLeDiff, Nat.reduceLT, Nat.reduceSub, Int.reduceLE, Int.reduceNeg, Int.reduceLT, hf0]
      refine ⟨by omega, ?_⟩
      have qq := tmod_bd (a := p) (b := (bs.length : Int)) (by omega) (by omega)
      simp (disch := omega) only [wrap64]
      all_goals (refine hR _ ?_; clear hR R))
    all_goals (
      refine qL_cons ?_
      intro R hR
      simp only [go_sem, reduceIte, reduceCtorEq, Nat.reduceAdd, Nat.reduceEqDiff, Nat.reduceLeDiff, Nat.reduceLT, Nat.reduceSub, Int.reduceLE, Int.reduceNeg, Int.reduceLT, hf0]
      refine ⟨⟨by omega, by omega⟩, ?_⟩
      intro x1 hx1
      have hx1b : (x1.toNat : Int) ≤ 255 := by have := x1.toNat_lt; omega
      all_goals (refine hR _ ?_; clear hR R))
    all_goals (
      refine qL_cons ?_
      intro R hR
      simp only [go_sem, reduceIte, reduceCtorEq, Nat.reduceAdd, Nat.reduceEqDiff, Nat.reduceLeDiff, Nat.reduceLT, Nat.reduceSub, Int.reduceLE, Int.reduceNeg, Int.reduceLT, hf0]
      all_goals (refine hR _ ?_; clear hR R))
    all_goals refine qP ?_
    all_goals (
      refine qL_cons ?_
      intro R hR
      simp only [go_sem, reduceIte, reduceCtorEq, Nat.reduceAdd, Nat.reduceEqDiff, Nat.reduceLeDiff, Nat.reduceLT, Nat.reduceSub, Int.reduceLE, Int.reduceNeg, Int.reduceLT, hf0]
      simp (disch := omega) only [wrap64]
      all_goals (refine hR _ ?_; clear hR R))
    all_goals iterate 3 refine qP ?_
    all_goals (
      refine qL_cons ?_
      intro R hR
      simp only [go_sem, reduceIte, reduceCtorEq, Nat.reduceAdd, Nat.reduceEqDiff, Nat.reduceLeDiff, Nat.reduceLT, Nat.reduceSub, Int.reduceLE, Int.reduceNeg, Int.reduceLT, hf0]
      all_goals (refine hR _ ?_; clear hR R))
    all_goals refine qP ?_
    all_goals (
      refine qL_cons ?_
      intro R hR
      simp only [go_sem, reduceIte, reduceCtorEq, Nat.reduceAdd, Nat.reduceEqDiff, Nat.reduceLeDiff, Nat.reduceLT, Nat.reduceSub, Int.reduceLE, Int.reduceNeg, Int.reduceLT, hf0]
      simp (disch := omega) only [wrap64]
      all_goals (refine hR _ ?_; clear hR R))
    all_goals (
      refine qL_cons ?_
      intro R hR
      simp only [go_sem, reduceIte, reduceCtorEq, Nat.reduceAdd, Nat.reduceEqDiff, Nat.reduceLeDiff, Nat.reduceLT, Nat.reduceSub, Int.reduceLE, Int.reduceNeg, Int.reduceLT, hf0]
      simp (disch := omega) only [wrap64]
      all_goals (refine hR _ ?_; clear hR R))
    all_goals iterate 3 refine qP ?_
    all_goals (
      refine qL_cons ?_
      intro R hR
      simp only [go_sem, reduceIte, reduceCtorEq, Nat.reduceAdd, Nat.reduceEqDiff, Nat.reduceLeDiff, Nat.reduceLT, Nat.reduceSub, Int.reduceLE, Int.reduceNeg, Int.reduceLT, hf0]
      all_goals (refine hR _ ?_; clear hR R))
    all_goals refine qP ?_
    all_goals (
      refine qL_cons ?_
      intro R hR
      simp only [go_sem, reduceIte, reduceCtorEq, Nat.reduceAdd, Nat.reduceEqDiff, Nat.reduceLeDiff, Nat.reduceLT, Nat.reduceSub, Int.reduceLE, Int.reduceNeg, Int.reduceLT, hf0]
      refine ⟨by omega, ?_⟩
      have qq := tmod_bd (a := p * 7 + 3) (b := (bs.length : Int)) (by omega) (by omega)
      simp (disch := omega) only [wrap64]
      all_goals (refine hR _ ?_; clear hR R))
    all_goals (
      refine qL_cons ?_
      intro R hR
      simp only [go_sem, reduceIte, reduceCtorEq, Nat.reduceAdd, Nat.reduceEqDiff, Nat.reduceLeDiff, Nat.reduceLT, Nat.reduceSub, Int.reduceLE, Int.reduceNeg, Int.reduceLT, hf0]
      refine ⟨⟨by omega, by omega⟩, ?_⟩
      intro x2 hx2
      have hx2b : (x2.toNat : Int) ≤ 255 := by have := x2.toNat_lt; omega
      all_goals (refine hR _ ?_; clear hR R))
    all_goals (
      refine qL_cons ?_
      intro R hR
      simp only [go_sem, reduceIte, reduceCtorEq, Nat.reduceAdd, Nat.reduceEqDiff, Nat.reduceLeDiff, Nat.reduceLT, Nat.reduceSub, Int.reduceLE, Int.reduceNeg, Int.reduceLT, hf0]
      all_goals (refine hR _ ?_; clear hR R))
    all_goals refine qP ?_
    all_goals (
      refine qL_cons ?_
      intro R hR
      simp only [go_sem, reduceIte, reduceCtorEq, Nat.reduceAdd, Nat.reduceEqDiff, Nat.reduceLeDiff, Nat.reduceLT, Nat.reduceSub, Int.reduceLE, Int.reduceNeg, Int.reduceLT, hf0]
      simp (disch := omega) only [wrap64]
      all_goals (refine hR _ ?_; clear hR R))
    all_goals (
      refine qL_cons ?_
      intro R hR
      simp only [go_sem, reduceIte, reduceCtorEq, Nat.reduceAdd, Nat.reduceEqDiff, Nat.reduceLeDiff, Nat.reduceLT, Nat.reduceSub, Int.reduceLE, Int.reduceNeg, Int.reduceLT, hf0]
      simp (disch := omega) only [wrap64]
      all_goals (refine hR _ ?_; clear hR R))
    all_goals refine qP ?_
    all_goals (
      refine qL_cons ?_
      intro R hR
      simp only [go_sem, reduceIte, reduceCtorEq, Nat.reduceAdd, Nat.reduceEqDiff, Nat.reduceLeDiff, Nat.reduceLT, Nat.reduceSub, Int.reduceLE, Int.reduceNeg, Int.reduceLT, hf0]
      simp (disch := omega) only [wrap64]
      all_goals (refine hR _ ?_; clear hR R))
    all_goals (
      refine qL_cons ?_
      intro R hR
      simp only [go_sem, reduceIte, reduceCtorEq, Nat.reduceAdd, Nat.reduceEqDiff, Nat.reduceLeDiff, Nat.reduceLT, Nat.reduceSub, Int.reduceLE, Int.reduceNeg, Int.reduceLT, hf0]
      simp (disch := omega) only [wrap64]
      all_goals (refine hR _ ?_; clear hR R))
    all_goals iterate 4 refine qP ?_
    all_goals (
      refine qL_cons ?_
      intro R hR
      simp only [go_sem, reduceIte, reduceCtorEq, Nat.reduceAdd, Nat.reduceEqDiff, Nat.reduceLeDiff, Nat.reduceLT, Nat.reduceSub, Int.reduceLE, Int.reduceNeg, Int.reduceLT, hf0]
      all_goals (refine hR _ ?_; clear hR R))
    all_goals refine qP ?_
    all_goals (
      refine qL_cons ?_
      intro R hR
      simp only [go_sem, reduceIte, reduceCtorEq, Nat.reduceAdd, Nat.reduceEqDiff, Nat.reduceLeDiff, Nat.reduceLT, Nat.reduceSub, Int.reduceLE, Int.reduceNeg, Int.reduceLT, hf0]
      refine ⟨by omega, ?_⟩
      have qq := tdiv_bd (a := p) (b := (bs.length : Int)) (by omega) (by omega)
      simp (disch := omega) only [wrap64]
      all_goals (refine hR _ ?_; clear hR R))
    all_goals (
      refine qL_cons ?_
      intro R hR
      simp only [go_sem, reduceIte, reduceCtorEq, Nat.reduceAdd, Nat.reduceEqDiff, Nat.reduceLeDiff, Nat.reduceLT, Nat.reduceSub, Int.reduceLE, Int.reduceNeg, Int.reduceLT, hf0]
      simp (disch := omega) only [wrap64]
      all_goals (refine hR _ ?_; clear hR R))
    all_goals (
      refine qL_cons ?_
      intro R hR
      simp only [go_sem, reduceIte, reduceCtorEq, Nat.reduceAdd, Nat.reduceEqDiff, Nat.reduceLeDiff, Nat.reduceLT, Nat.reduceSub, Int.reduceLE, Int.reduceNeg, Int.reduceLT, hf0]
      simp (disch := omega) only [wrap64]
      all_goals (refine hR _ ?_; clear hR R))
    all_goals refine qP ?_
    all_goals refine qE ?_
    all_goals clear hf0 hav av)
  all_goals first
  | fail_if_success with_reducible refine atR 8 ?_
  | (
    refine rg 8 [] [some 92, some 93, some 94, some 95, some 6] 5 ?_
    all_goals iterate 2 refine qP ?_
    all_goals (
      refine qL_cons ?_
      intro R hR
      refine sm ?_
      have qq := tdiv_bd (a := (x1.toNat * 131 + x2.toNat * 1117 + p * 29 + p.tdiv bs.length * 53)) (b := 64) (by omega) (by omega)
      simp (disch := omega) only [wrap64]
      all_goals (refine hR _ ?_; clear hR R))
    all_goals (
      refine qL_cons ?_
      intro R hR
      refine sm ?_
      intro r hr1 hr2
      all_goals (refine hR _ ?_; clear hR R))
    all_goals refine qP ?_
    all_goals refine qE ?_)
  all_goals first
  | fail_if_success with_reducible refine atR 9 ?_
  | (
    refine rg 9 [] [some 96, some 97, some 98, some 4] 4 ?_
    all_goals iterate 2 refine qP ?_
    all_goals (
      refine qL_cons ?_
      intro R hR
      refine sm ?_
      have qr := tdiv_bd (a := (x1.toNat * 131 + x2.toNat * 1117 + p * 29 + p.tdiv bs.length * 53)) (b := 64) (by omega) (by omega)
      have hr3 := hr2 (by omega) (by omega)
      refine ⟨by omega, ?_⟩
      have qq := tmod_bd (a := r) (b := n) (by omega) (by omega)
      simp (disch := omega) only [wrap64]
      all_goals (refine hR _ ?_; clear hR R))
    all_goals refine qP ?_
    all_goals refine qE ?_)
  all_goals first
  | (refine ret_box (c1 := rdC bs (p + 1)) [.d (.int .i64 0)] ⟨cl, trivial⟩ (fun _ => rfl) cl rfl ⟨_, rfl, by omega, .inr rfl, rfl⟩; done)
  | (
    have qq := tmod_bd (a := (x.toNat : Int)) (b := n) (by omega) (by omega)
    refine ret_box (c1 := rdC bs (p + 1)) [.d (.int .i64 ((x.toNat : Int).tmod n))] ⟨cl, trivial⟩ (fun _ => rfl) cl rfl ⟨_, rfl, by omega, .inl (by omega), rfl⟩)
  | (
    have qr := tdiv_bd (a := (x1.toNat * 131 + x2.toNat * 1117 + p * 29 + p.tdiv bs.length * 53)) (b := 64) (by omega) (by omega)
    have hr3 := hr2 (by omega) (by omega)
    have qq := tmod_bd (a := r) (b := n) (by omega) (by omega)
    refine ret_box (c1 := rdC bs (p + 1)) [.d (.int .i64 (r.tmod n))] ⟨cl, trivial⟩ (fun _ => rfl) cl rfl ⟨_, rfl, by omega, .inl (by omega), rfl⟩)

end
end Go.Proofs.Ytmlbdicaeefomaa
