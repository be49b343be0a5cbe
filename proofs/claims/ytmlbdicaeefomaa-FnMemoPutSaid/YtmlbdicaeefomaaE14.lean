/- a number drawn from a code; a code opened; one of some strings drawn; a review drawn from a code; a line of a text, of both. No condition. -/
import Derived.Test.YtmlbdicaeefomaaE30
import Derived.Test.YtmlbdicaeefomaaAxE
import Derived.Test.YtmlbdicaeefomaaE12
namespace Go.Proofs.Ytmlbdicaeefomaa
open Go Go.RowKit
set_option maxRecDepth 100000
set_option linter.unusedSimpArgs false
set_option linter.unusedVariables false
theorem tsz31 : tsz Try.prog 31 = some (false, 1) := by kernel_rfl
theorem tsz5 : tsz Try.prog 5 = some (false, 1) := by kernel_rfl
theorem tsz3 : tsz Try.prog 3 = some (false, 1) := by kernel_rfl
theorem tsz84 : tsz Try.prog 84 = some (true, 2) := by kernel_rfl
theorem tfld84 : tfld Try.prog 84 = some [(0, 31), (1, 3)] := by kernel_rfl
theorem tel31 : telem Try.prog 31 = some (5, 1, 1) := by kernel_rfl
theorem zero84 : tzero Try.prog 84 = some [.nil, .d (.int .i64 0)] := by kernel_rfl
theorem und3 : Try.prog.underlying 3 = some (.int .i64) := by kernel_rfl
theorem und5 : Try.prog.underlying 5 = some (.int .u8) := by kernel_rfl
def bX (c : UInt8) : List D := [.int .u8 c.toNat]
/-- The reader of a code: its bytes, how many were read. -/
def rdC (bs : List UInt8) (p : Int) : Cap := .box 84 [.d (.of bX bs), .d (.int .i64 p)]
theorem wrapU {n : Int} (h1 : -9223372036854775808 ≤ n) (h2 : n ≤ 9223372036854775807) : IntKind.i64.wrap n = n := wrap64 h1 h2
theorem tdiv_bd {a b : Int} (ha : 0 ≤ a) (hb : 0 < b) : 0 ≤ a.tdiv b ∧ a.tdiv b ≤ a := by
  rw [Int.tdiv_eq_ediv_of_nonneg ha]
  exact ⟨Int.ediv_nonneg ha (by omega), Int.ediv_le_self _ ha⟩
theorem tmod_bd {a b : Int} (ha : 0 ≤ a) (hb : 0 < b) : 0 ≤ a.tmod b ∧ a.tmod b < b := by
  rw [Int.tmod_eq_emod_of_nonneg ha]
  exact ⟨Int.emod_nonneg _ (by omega), Int.emod_lt_of_pos _ hb⟩
theorem bX_get {bs : List UInt8} {i : Nat} {c : List D} (h : (bs.map bX)[i]? = some c) : ∃ y, bs[i]? = some y ∧ c = bX y := by
  rw [List.getElem?_map] at h
  cases hs : bs[i]? with
  | none => rw [hs] at h; cases h
  | some y => rw [hs] at h; exact ⟨y, rfl, (Option.some.inj h).symm⟩
def pickR (bs : List UInt8) (n p : Int) : X → Cap → Prop := fun x c' => ∃ r : Int, x = .d (.int .i64 r) ∧ 0 ≤ r ∧ (r < n ∨ r = 0) ∧ c' = rdC bs (p + 1)
attribute [local go_sem] List.size_toArray Int.toNat_zero Nat.sub_zero size_mk top_val eq_self datL X.dat u8min u8max i64min i64max stepT gdO aop ev lit litOk putF fzX_false putO upd app List.contains_nil List.elem_nil aBin aInt aStr aBool aLen lenTy aBuiltin aLoad aTake aTakeX aStore splice aSlice aBd look_cons look_nil lookC_cons lookC_nil by_s by_C start_s start_C X.cells X.cell List.all_cons List.all_nil Bool.and_self Bool.not_true Bool.not_false false_implies true_implies forall_const and_true true_and and_self implies_true not_false_eq_true Nat.zero_add Nat.add_zero List.getD_cons_zero List.getD_cons_succ List.map_cons List.map_nil Option.bind_some Option.map_some Option.map_none List.getElem?_cons_zero List.getElem?_cons_succ List.length_cons List.length_nil List.drop_zero List.drop_succ_cons List.take_succ_cons List.take_zero List.cons_append List.nil_append List.append_nil D.of List.length_map all_get_map Option.isSome_some and_false false_and Nat.lt_add_one Nat.zero_lt_succ decide_true decide_false aPart Nat.lt_irrefl fzX litEs List.contains_cons List.elem_cons Bool.true_or Bool.or_true Bool.false_or Bool.or_false beq_self_eq_true
section
attribute [local go_sem] tsz31 tsz5 tsz3 tsz84 tfld84 tel31 zero84 und3 und5 toNat_cast und9 rdC bX caps1
theorem pick_spec (bs : List UInt8) (n p : Int) (hp : 0 ≤ p) (hp2 : p ≤ 1000000) (hn : n ≤ 1000000) : Spec Try.prog 68 [.bx 0 0, .d (.int .i64 n)] [(0, rdC bs p)] 1 (fun x δ => ∃ c', δ = [(0, some c')] ∧ pickR bs n p x c') := by
  refine Spec.of (fn := Try.f68) Try.func68 rfl (by kernel_rfl) (rs := [.tmp 4]) rfl 2 (by simp [Try.f68]) rfl (by simp [Cap.on, X.onL, X.on, rdC]) ?_
  intro hreal
  rintro ⟨P, T, L0, w0, ι0, C0, U0⟩ hP hT hU
  subst hP hT
  refine st ?_
  have hlen : True := trivial
  all_goals first
  | fail_if_success with_reducible refine atR 0 ?_
  | (
    refine rg 0 [] [some 4] 1 ?_
    all_goals refine qP ?_
    all_goals refine qE ?_)
  all_goals first
  | fail_if_success with_reducible refine atR 1 ?_
  | (
    refine rg 1 [] [some 7, some 8, some 9, some 10, some 11, some 12, some 13, some 14, none] 9 ?_
    all_goals iterate 5 refine qP ?_
    all_goals (
      refine qL_cons ?_
      intro R hR
      refine sm ?_
      simp (disch := omega) only [wrap64]
      all_goals (refine hR _ ?_; clear hR R))
    all_goals iterate 3 refine qP ?_
    all_goals refine qE ?_)
  all_goals first
  | fail_if_success with_reducible refine atR 2 ?_
  | (
    refine rg 2 [] [some 15, some 16, some 17, some 18, some 19, some 20, some 21, some 22, some 23, some 24] 10 ?_
    all_goals iterate 3 refine qP ?_
    all_goals first | refine qU 17 ?_ | (refine qS 17 ?_ ?_ <;> intro hg2_2 <;> try (cases hg2_2; done))
    all_goals iterate 7 refine qP ?_
    all_goals refine qE ?_)
  all_goals first
  | fail_if_success with_reducible refine atC 24 ?_
  | (
    refine cn 24 ?_ ?_ <;> intro hc24 <;> try (cases hc24; done)
    all_goals refine st ?_)
  all_goals first
  | fail_if_success with_reducible refine atR 3 ?_
  | (
    refine rg 3 [] [some 4] 1 ?_
    all_goals refine qP ?_
    all_goals refine qE ?_)
  all_goals first
  | fail_if_success with_reducible refine atR 4 ?_
  | (
    refine rg 4 [] [some 25, some 26, some 27, some 28, some 29, some 5] 6 ?_
    all_goals iterate 4 refine qP ?_
    all_goals (
      refine qL_cons ?_
      intro R hR
      refine sm ?_
      simp (disch := omega) only [wrap64]
      rw [show p + 1 - 1 = p by omega]
      all_goals (refine hR _ ?_; clear hR R))
    all_goals refine qP ?_
    all_goals refine qE ?_)
  all_goals first
  | fail_if_success with_reducible refine atR 5 ?_
  | (
    refine rg 5 [] [some 30, some 31, some 32, some 33, some 34, some 35, some 36] 7 ?_
    all_goals iterate 7 refine qP ?_
    all_goals refine qE ?_)
  all_goals first
  | fail_if_success with_reducible refine atC 36 ?_
  | (
    refine cn 36 ?_ ?_ <;> intro hc36 <;> try (cases hc36; done)
    all_goals refine st ?_)
  all_goals try have q1 := tmod_bd (a := p) (b := (bs.length : Int)) (by omega) (by omega)
  all_goals try have q2 := tmod_bd (a := p * 7 + 3) (b := (bs.length : Int)) (by omega) (by omega)
  all_goals try have q3 := tdiv_bd (a := p) (b := (bs.length : Int)) (by omega) (by omega)
  all_goals first
  | fail_if_success with_reducible refine atR 6 ?_
  | (
    refine rg 6 [] [some 37, some 38, some 39, some 40, some 41, some 42, some 43, some 44, some 45, some 46, some 4] 11 ?_
    all_goals iterate 5 refine qP ?_
    all_goals (
      refine qL_cons ?_
      intro R hR
      refine sm ?_
      refine ⟨⟨by omega, by omega⟩, ?_⟩
      intro x hx
      have hxb : (x.toNat : Int) ≤ 255 := by have := x.toNat_lt; omega
      all_goals (refine hR _ ?_; clear hR R))
    all_goals iterate 3 refine qP ?_
    all_goals (
      refine qL_cons ?_
      intro R hR
      refine sm ?_
      refine ⟨by omega, ?_⟩
      have qq := tmod_bd (a := (x.toNat : Int)) (b := n) (by omega) (by omega)
      simp (disch := omega) only [wrap64]
      all_goals (refine hR _ ?_; clear hR R))
    all_goals refine qP ?_
    all_goals refine qE ?_)
  all_goals first
  | fail_if_success with_reducible refine atR 7 ?_
  | (
    refine rgD 7 [] [some 47, some 48, some 49, some 50, some 51, some 52, some 53, some 54, some 55, some 56, some 57, some 58, some 59, some 60, some 61, some 62, some 63, some 64, some 65, some 66, some 67, some 68, some 69, some 70, some 71, some 72, some 73, some 74, some 75, some 76, some 77, some 78, some 79, some 80, some 81, some 82, some 83, some 84, some 85, some 86, some 87, some 88, some 89, some 90, some 91, some 6] 46 47 ?_
    intro av hav
    have hf0 := freeD 0 hav
    all_goals iterate 3 refine qP ?_
    all_goals (
      refine qL_cons ?_
      intro R hR
      simp only [go_sem, reduceIte, reduceCtorEq, Nat.reduceAdd, Nat.reduceEqDiff, Nat.reduceLeDiff, Nat.reduceLT, Nat.reduceSub, Int.reduceLE, Int.reduceNeg, Int.reduceLT, hf0]
      all_goals (refine hR _ ?_; clear hR R))
    all_goals iterate 4 refine qP ?_
    all_goals (
      refine qL_cons ?_
      intro R hR
      simp only [go_sem, reduceIte, reduceCtorEq, Nat.reduceAdd, Nat.reduceEqDiff, Nat.reduceLeDiff, Nat.reduceLT, Nat.reduceSub, Int.reduceLE, Int.reduceNeg, Int.reduceLT, hf0]
      all_goals (refine hR _ ?_; clear hR R))
    all_goals refine qP ?_
    all_goals (
      refine qL_cons ?_
      intro R hR
      simp only [go_sem, reduceIte, reduceCtorEq, Nat.reduceAdd, Nat.reduceEqDiff, Nat.reduceLeDiff, Nat.reduceLT, Nat.reduceSub, Int.reduceLE, Int.reduceNeg, Int.reduceLT, hf0]
      refine ⟨by omega, ?_⟩
      have qq := tmod_bd (a := p) (b := (bs.length : Int)) (by omega) (by omega)
      simp (disch := omega) only [wrap64]
      all_goals (refine hR _ ?_; clear hR R))
    all_goals (
      refine qL_cons ?_
      intro R hR
      simp only [go_sem, reduceIte, reduceCtorEq, Nat.reduceAdd, Nat.reduceEqDiff, Nat.reduceLeDiff, Nat.reduceLT, Nat.reduceSub, Int.reduceLE, Int.reduceNeg, Int.reduceLT, hf0]
      refine ⟨⟨by omega, by omega⟩, ?_⟩
      intro x1 hx1
      have hx1b : (x1.toNat : Int) ≤ 255 := by have := x1.toNat_lt; omega
      all_goals (refine hR _ ?_; clear hR R))
    all_goals (
      refine qL_cons ?_
      intro R hR
      simp only [go_sem, reduceIte, reduceCtorEq, Nat.reduceAdd, Nat.reduceEqDiff, Nat.reduceLeDiff, Nat.reduceLT, Nat.reduceSub, Int.reduceLE, Int.reduceNeg, Int.reduceLT, hf0]
      all_goals (refine hR _ ?_; clear hR R))
    all_goals refine qP ?_
    all_goals (
      refine qL_cons ?_
      intro R hR
      simp only [go_sem, reduceIte, reduceCtorEq, Nat.reduceAdd, Nat.reduceEqDiff, Nat.reduceLeDiff, Nat.reduceLT, Nat.reduceSub, Int.reduceLE, Int.reduceNeg, Int.reduceLT, hf0]
      simp (disch := omega) only [wrap64]
      all_goals (refine hR _ ?_; clear hR R))
    all_goals iterate 3 refine qP ?_
    all_goals (
      refine qL_cons ?_
      intro R hR
      simp only [go_sem, reduceIte, reduceCtorEq, Nat.reduceAdd, Nat.reduceEqDiff, Nat.reduceLeDiff, Nat.reduceLT, Nat.reduceSub, Int.reduceLE, Int.reduceNeg, Int.reduceLT, hf0]
      all_goals (refine hR _ ?_; clear hR R))
    all_goals refine qP ?_
    all_goals (
      refine qL_cons ?_
      intro R hR
      simp only [go_sem, reduceIte, reduceCtorEq, Nat.reduceAdd, Nat.reduceEqDiff, Nat.reduceLeDiff, Nat.reduceLT, Nat.reduceSub, Int.reduceLE, Int.reduceNeg, Int.reduceLT, hf0]
      simp (disch := omega) only [wrap64]
      all_goals (refine hR _ ?_; clear hR R))
    all_goals (
      refine qL_cons ?_
      intro R hR
      simp only [go_sem, reduceIte, reduceCtorEq, Nat.reduceAdd, Nat.reduceEqDiff, Nat.reduceLeDiff, Nat.reduceLT, Nat.reduceSub, Int.reduceLE, Int.reduceNeg, Int.reduceLT, hf0]
      simp (disch := omega) only [wrap64]
      all_goals (refine hR _ ?_; clear hR R))
    all_goals iterate 3 refine qP ?_
    all_goals (
      refine qL_cons ?_
      intro R hR
      simp only [go_sem, reduceIte, reduceCtorEq, Nat.reduceAdd, Nat.reduceEqDiff, Nat.reduceLeDiff, Nat.reduceLT, Nat.reduceSub, Int.reduceLE, Int.reduceNeg, Int.reduceLT, hf0]
      all_goals (refine hR _ ?_; clear hR R))
    all_goals refine qP ?_
    all_goals (
      refine qL_cons ?_
      intro R hR
      simp only [go_sem, reduceIte, reduceCtorEq, Nat.reduceAdd, Nat.reduceEqDiff, Nat.reduceLeDiff, Nat.reduceLT, Nat.reduceSub, Int.reduceLE, Int.reduceNeg, Int.reduceLT, hf0]
      refine ⟨by omega, ?_⟩
      have qq := tmod_bd (a := p * 7 + 3) (b := (bs.length : Int)) (by omega) (by omega)
      simp (disch := omega) only [wrap64]
      all_goals (refine hR _ ?_; clear hR R))
    all_goals (
      refine qL_cons ?_
      intro R hR
      simp only [go_sem, reduceIte, reduceCtorEq, Nat.reduceAdd, Nat.reduceEqDiff, Nat.reduceLeDiff, Nat.reduceLT, Nat.reduceSub, Int.reduceLE, Int.reduceNeg, Int.reduceLT, hf0]
      refine ⟨⟨by omega, by omega⟩, ?_⟩
      intro x2 hx2
      have hx2b : (x2.toNat : Int) ≤ 255 := by have := x2.toNat_lt; omega
      all_goals (refine hR _ ?_; clear hR R))
    all_goals (
      refine qL_cons ?_
      intro R hR
      simp only [go_sem, reduceIte, reduceCtorEq, Nat.reduceAdd, Nat.reduceEqDiff, Nat.reduceLeDiff, Nat.reduceLT, Nat.reduceSub, Int.reduceLE, Int.reduceNeg, Int.reduceLT, hf0]
      all_goals (refine hR _ ?_; clear hR R))
    all_goals refine qP ?_
    all_goals (
      refine qL_cons ?_
      intro R hR
      simp only [go_sem, reduceIte, reduceCtorEq, Nat.reduceAdd, Nat.reduceEqDiff, Nat.reduceLeDiff, Nat.reduceLT, Nat.reduceSub, Int.reduceLE, Int.reduceNeg, Int.reduceLT, hf0]
      simp (disch := omega) only [wrap64]
      all_goals (refine hR _ ?_; clear hR R))
    all_goals (
      refine qL_cons ?_
      intro R hR
      simp only [go_sem, reduceIte, reduceCtorEq, Nat.reduceAdd, Nat.reduceEqDiff, Nat.reduceLeDiff, Nat.reduceLT, Nat.reduceSub, Int.reduceLE, Int.reduceNeg, Int.reduceLT, hf0]
      simp (disch := omega) only [wrap64]
      all_goals (refine hR _ ?_; clear hR R))
    all_goals refine qP ?_
    all_goals (
      refine qL_cons ?_
      intro R hR
      simp only [go_sem, reduceIte, reduceCtorEq, Nat.reduceAdd, Nat.reduceEqDiff, Nat.reduceLeDiff, Nat.reduceLT, Nat.reduceSub, Int.reduceLE, Int.reduceNeg, Int.reduceLT, hf0]
      simp (disch := omega) only [wrap64]
      all_goals (refine hR _ ?_; clear hR R))
    all_goals (
      refine qL_cons ?_
      intro R hR
      simp only [go_sem, reduceIte, reduceCtorEq, Nat.reduceAdd, Nat.reduceEqDiff, Nat.reduceLeDiff, Nat.reduceLT, Nat.reduceSub, Int.reduceLE, Int.reduceNeg, Int.reduceLT, hf0]
      simp (disch := omega) only [wrap64]
      all_goals (refine hR _ ?_; clear hR R))
    all_goals iterate 4 refine qP ?_
    all_goals (
      refine qL_cons ?_
      intro R hR
      simp only [go_sem, reduceIte, reduceCtorEq, Nat.reduceAdd, Nat.reduceEqDiff, Nat.reduceLeDiff, Nat.reduceLT, Nat.reduceSub, Int.reduceLE, Int.reduceNeg, Int.reduceLT, hf0]
      all_goals (refine hR _ ?_; clear hR R))
    all_goals refine qP ?_
    all_goals (
      refine qL_cons ?_
      intro R hR
      simp only [go_sem, reduceIte, reduceCtorEq, Nat.reduceAdd, Nat.reduceEqDiff, Nat.reduceLeDiff, Nat.reduceLT, Nat.reduceSub, Int.reduceLE, Int.reduceNeg, Int.reduceLT, hf0]
      refine ⟨by omega, ?_⟩
      have qq := tdiv_bd (a := p) (b := (bs.length : Int)) (by omega) (by omega)
      simp (disch := omega) only [wrap64]
      all_goals (refine hR _ ?_; clear hR R))
    all_goals (
      refine qL_cons ?_
      intro R hR
      simp only [go_sem, reduceIte, reduceCtorEq, Nat.reduceAdd, Nat.reduceEqDiff, Nat.reduceLeDiff, Nat.reduceLT, Nat.reduceSub, Int.reduceLE, Int.reduceNeg, Int.reduceLT, hf0]
      simp (disch := omega) only [wrap64]
      all_goals (refine hR _ ?_; clear hR R))
    all_goals (
      refine qL_cons ?_
      intro R hR
      simp only [go_sem, reduceIte, reduceCtorEq, Nat.reduceAdd, Nat.reduceEqDiff, Nat.reduceLeDiff, Nat.reduceLT, Nat.reduceSub, Int.reduceLE, Int.reduceNeg, Int.reduceLT, hf0]
      simp (disch := omega) only [wrap64]
      all_goals (refine hR _ ?_; clear hR R))
    all_goals refine qP ?_
    all_goals refine qE ?_
    all_goals clear hf0 hav av)
  all_goals first
  | fail_if_success with_reducible refine atR 8 ?_
  | (
    refine rg 8 [] [some 92, some 93, some 94, some 95, some 6] 5 ?_
    all_goals iterate 2 refine qP ?_
    all_goals (
      refine qL_cons ?_
      intro R hR
      refine sm ?_
      have qq := tdiv_bd (a := (x1.toNat * 131 + x2.toNat * 1117 + p * 29 + p.tdiv bs.length * 53)) (b := 64) (by omega) (by omega)
      simp (disch := omega) only [wrap64]
      all_goals (refine hR _ ?_; clear hR R))
    all_goals (
      refine qL_cons ?_
      intro R hR
      refine sm ?_
      intro r hr1 hr2
      all_goals (refine hR _ ?_; clear hR R))
    all_goals refine qP ?_
    all_goals refine qE ?_)
  all_goals first
  | fail_if_success with_reducible refine atR 9 ?_
  | (
    refine rg 9 [] [some 96, some 97, some 98, some 4] 4 ?_
    all_goals iterate 2 refine qP ?_
    all_goals (
      refine qL_cons ?_
      intro R hR
      refine sm ?_
      have qr := tdiv_bd (a := (x1.toNat * 131 + x2.toNat * 1117 + p * 29 + p.tdiv bs.length * 53)) (b := 64) (by omega) (by omega)
      have hr3 := hr2 (by omega) (by omega)
      refine ⟨by omega, ?_⟩
      have qq := tmod_bd (a := r) (b := n) (by omega) (by omega)
      simp (disch := omega) only [wrap64]
      all_goals (refine hR _ ?_; clear hR R))
    all_goals refine qP ?_
    all_goals refine qE ?_)
  all_goals first
  | (refine ret_box (c1 := rdC bs (p + 1)) [.d (.int .i64 0)] ⟨cl, trivial⟩ (fun _ => rfl) cl rfl ⟨_, rfl, by omega, .inr rfl, rfl⟩; done)
  | (
    have qq := tmod_bd (a := (x.toNat : Int)) (b := n) (by omega) (by omega)
    refine ret_box (c1 := rdC bs (p + 1)) [.d (.int .i64 ((x.toNat : Int).tmod n))] ⟨cl, trivial⟩ (fun _ => rfl) cl rfl ⟨_, rfl, by omega, .inl (by omega), rfl⟩)
  | (
    have qr := tdiv_bd (a := (x1.toNat * 131 + x2.toNat * 1117 + p * 29 + p.tdiv bs.length * 53)) (b := 64) (by omega) (by omega)
    have hr3 := hr2 (by omega) (by omega)
    have qq := tmod_bd (a := r) (b := n) (by omega) (by omega)
    refine ret_box (c1 := rdC bs (p + 1)) [.d (.int .i64 (r.tmod n))] ⟨cl, trivial⟩ (fun _ => rfl) cl rfl ⟨_, rfl, by omega, .inl (by omega), rfl⟩)

end
end Go.Proofs.Ytmlbdicaeefomaa
namespace Go.Proofs.Ytmlbdicaeefomaa
open Go Go.RowKit
set_option maxRecDepth 100000
set_option linter.unusedSimpArgs false
set_option linter.unusedVariables false
theorem bX_len (l : List UInt8) : ∀ e ∈ l.map bX, e.length = 1 := by
  intro e he
  obtain ⟨s, -, rfl⟩ := List.mem_map.1 he
  rfl
def cutB (bs : List UInt8) : List UInt8 := if 2000 < bs.length then bs.take 2000 else bs
theorem pickR_on {bs : List UInt8} {n p : Int} : ∀ x c', pickR bs n p x c' → x.on (fun _ => false) = true ∧ c'.on (fun _ => false) = true := by
  rintro x c' ⟨r, rfl, -, -, rfl⟩
  exact ⟨rfl, rfl⟩
theorem pickR_ne (bs : List UInt8) (n p : Int) : ∃ x c', pickR bs n p x c' := ⟨_, _, 0, rfl, by omega, .inr rfl, rfl⟩
def ofR (bs : List UInt8) (p : Int) : X → Cap → Prop := fun x c' => ∃ s : ByteArray, x = .d (.str s) ∧ c' = rdC bs (p + 1)
theorem ofR_on {bs : List UInt8} {p : Int} : ∀ x c', ofR bs p x c' → x.on (fun _ => false) = true ∧ c'.on (fun _ => false) = true := by
  rintro x c' ⟨r, rfl, rfl⟩
  exact ⟨rfl, rfl⟩
theorem ofR_ne (bs : List UInt8) (p : Int) : ∃ x c', ofR bs p x c' := ⟨_, _, ByteArray.empty, rfl, rfl⟩
def RVx (v : Rv) : X := .ag [.d (.str v.br), .d (.str v.into), .d (.str v.by_), .d (strs v.yes)]
def rvR (bs : List UInt8) (p k : Int) : X → Cap → Prop := fun x c' => ∃ v : Rv, x = RVx v ∧ ∃ q : Int, p ≤ q ∧ q ≤ p + k ∧ c' = rdC bs q
theorem rvR_on {bs : List UInt8} {p k : Int} : ∀ x c', rvR bs p k x c' → x.on (fun _ => false) = true ∧ c'.on (fun _ => false) = true := by
  rintro x c' ⟨v, rfl, q, -, -, rfl⟩
  exact ⟨rfl, rfl⟩
theorem rvR_ne (bs : List UInt8) (p k : Int) (hk : 0 ≤ k) : ∃ x c', rvR bs p k x c' := ⟨_, _, ⟨ByteArray.empty, ByteArray.empty, ByteArray.empty, []⟩, rfl, p, by omega, by omega, rfl⟩
attribute [local go_sem] List.size_toArray Int.toNat_zero Nat.sub_zero size_mk top_val eq_self datL X.dat u8min u8max i64min i64max stepT gdO aop ev lit litOk putF fzX_false putO upd app List.contains_nil List.elem_nil aBin aInt aStr aBool aLen lenTy aBuiltin aLoad aTake aTakeX aStore splice aSlice aBd look_cons look_nil lookC_cons lookC_nil by_s by_C start_s start_C X.cells X.cell List.all_cons List.all_nil Bool.and_self Bool.not_true Bool.not_false false_implies true_implies forall_const and_true true_and and_self implies_true not_false_eq_true Nat.zero_add Nat.add_zero List.getD_cons_zero List.getD_cons_succ List.map_cons List.map_nil Option.bind_some Option.map_some Option.map_none List.getElem?_cons_zero List.getElem?_cons_succ List.length_cons List.length_nil List.drop_zero List.drop_succ_cons List.take_succ_cons List.take_zero List.cons_append List.nil_append List.append_nil D.of List.length_map all_get_map Option.isSome_some and_false false_and Nat.lt_add_one Nat.zero_lt_succ decide_true decide_false aPart Nat.lt_irrefl fzX litEs List.contains_cons List.elem_cons Bool.true_or Bool.or_true Bool.false_or Bool.or_false beq_self_eq_true
section
attribute [local go_sem] tsz31 tsz5 tsz3 tsz84 tfld84 tel31 zero84 und3 und5 toNat_cast und9 bX
theorem l30Open_spec (bs : List UInt8) : FunN Try.prog 36 [.d (.of bX bs)] (rdC (cutB bs) 0) := by
  refine FunN.of ?_ rfl rfl
  refine Spec.of (fn := Try.f36) Try.func36 rfl (by kernel_rfl) (rs := [.tmp 2]) rfl 1 (by simp [Try.f36]) rfl (by simp) ?_
  intro hreal
  rintro ⟨P, T, L0, w0, ι0, C0, U0⟩ hP hT hU
  subst hP hT
  refine st ?_
  all_goals first
  | fail_if_success with_reducible refine atR 0 ?_
  | (
    refine rg 0 [] [some 2] 1 ?_
    all_goals refine qP ?_
    all_goals refine qE ?_)
  all_goals first
  | fail_if_success with_reducible refine atR 1 ?_
  | (
    refine rg 1 [] [some 3, some 4, some 5] 3 ?_
    all_goals iterate 3 refine qP ?_
    all_goals refine qE ?_)
  all_goals first
  | fail_if_success with_reducible refine atC 5 ?_
  | (
    refine cn 5 ?_ ?_ <;> intro hc5 <;> try (cases hc5; done)
    all_goals refine st ?_)
  all_goals first
  | fail_if_success with_reducible refine atR 2 ?_
  | (
    refine rg 2 [] [some 6, some 7, some 0] 3 ?_
    all_goals refine qP ?_
    all_goals (
      refine qL_cons ?_
      intro R hR
      refine sm ?_
      refine ⟨bX_len _, by omega, ?_⟩
      rw [← List.map_take]
      all_goals (refine hR _ ?_; clear hR R))
    all_goals refine qP ?_
    all_goals refine qE ?_)
  all_goals first
  | fail_if_success with_reducible refine atR 3 ?_
  | (
    refine rg 3 [] [some 8, some 9, some 10, some 2] 4 ?_
    all_goals iterate 4 refine qP ?_
    all_goals refine qE ?_)
  all_goals first
  | (
    have hb : cutB bs = bs.take 2000 := by unfold cutB; rw [if_pos (by omega)]
    rw [hb]
    exact ret_new 10 hU cl cl rfl)
  | (
    have hb : cutB bs = bs := by unfold cutB; rw [if_neg (by omega)]
    rw [hb]
    exact ret_new 7 hU cl cl rfl)

end
section
attribute [local go_sem] tsz9 tsz22 tel22 toNat_cast und9 caps1 sS
theorem of_spec (bs : List UInt8) (L : List ByteArray) (p : Int) (hp : 0 ≤ p) (hp2 : p ≤ 1000000) (hL : 0 < L.length) (hL2 : L.length ≤ 1000000) : Spec Try.prog 57 [.bx 0 0, .d (strs L)] [(0, rdC bs p)] 1 (fun x δ => ∃ c', δ = [(0, some c')] ∧ ofR bs p x c') := by
  refine Spec.of (fn := Try.f57) Try.func57 rfl (by kernel_rfl) (rs := [.tmp 4]) rfl 2 (by simp [Try.f57]) rfl (by simp [Cap.on, X.onL, X.on, rdC]) ?_
  intro hreal
  rintro ⟨P, T, L0, w0, ι0, C0, U0⟩ hP hT hU
  subst hP hT
  refine st ?_
  all_goals first
  | fail_if_success with_reducible refine atR 0 ?_
  | (
    refine rg 0 [] [some 4] 1 ?_
    all_goals refine qP ?_
    all_goals refine qE ?_)
  all_goals first
  | fail_if_success with_reducible refine atR 1 ?_
  | (
    refine rg 1 [] [some 5, some 6, some 7, some 8, some 9, some 10, some 11, some 4] 8 ?_
    all_goals iterate 4 refine qP ?_
    all_goals (
      refine qL_cons ?_
      intro R hR
      refine sm ?_
      refine call_box (pick_spec bs L.length p hp hp2 (by omega)) rfl rfl pickR_on (pickR_ne _ _ _) (a := 0) (by decide) cl trivial (fun h => h) ?_ ?_
      · exact ⟨.inl rfl, ⟨.inl rfl, trivial⟩⟩
      rintro _ _ ⟨r, rfl, hr0, hr1, rfl⟩
      try refine sm ?_
      all_goals (refine hR _ ?_; clear hR R))
    all_goals (
      refine qL_cons ?_
      intro R hR
      refine sm ?_
      refine ⟨⟨by omega, by omega⟩, ?_⟩
      intro s hs
      all_goals (refine hR _ ?_; clear hR R))
    all_goals iterate 2 refine qP ?_
    all_goals refine qE ?_)
  all_goals exact ret_box (c1 := rdC bs (p + 1)) [.d (.str s)] ⟨cl, trivial⟩ (fun _ => rfl) cl rfl ⟨_, rfl, rfl⟩

end
end Go.Proofs.Ytmlbdicaeefomaa
namespace Go.Proofs.Ytmlbdicaeefomaa
open Go Go.RowKit
set_option maxRecDepth 100000
set_option linter.unusedSimpArgs false
set_option linter.unusedVariables false
attribute [local go_sem] List.size_toArray Int.toNat_zero Nat.sub_zero size_mk top_val eq_self datL X.dat u8min u8max i64min i64max stepT gdO aop ev lit litOk putF fzX_false putO upd app List.contains_nil List.elem_nil aBin aInt aStr aBool aLen lenTy aBuiltin aLoad aTake aTakeX aStore splice aSlice aBd look_cons look_nil lookC_cons lookC_nil by_s by_C start_s start_C X.cells X.cell List.all_cons List.all_nil Bool.and_self Bool.not_true Bool.not_false false_implies true_implies forall_const and_true true_and and_self implies_true not_false_eq_true Nat.zero_add Nat.add_zero List.getD_cons_zero List.getD_cons_succ List.map_cons List.map_nil Option.bind_some Option.map_some Option.map_none List.getElem?_cons_zero List.getElem?_cons_succ List.length_cons List.length_nil List.drop_zero List.drop_succ_cons List.take_succ_cons List.take_zero List.cons_append List.nil_append List.append_nil D.of List.length_map all_get_map Option.isSome_some and_false false_and Nat.lt_add_one Nat.zero_lt_succ decide_true decide_false aPart Nat.lt_irrefl fzX litEs List.contains_cons List.elem_cons Bool.true_or Bool.or_true Bool.false_or Bool.or_false beq_self_eq_true
section
attribute [local go_sem] tsz9 tsz22 tsz27 tfld27 tel22 toNat_cast und9 zero27 tz9l iz9 aDst aSrc caps1 sS List.length_append St.frz X.frz X.frzL Cap.frz
theorem l30Review_spec (bs : List UInt8) (p : Int) (hp : 0 ≤ p) (hp2 : p ≤ 100000) : Spec Try.prog 56 [.bx 0 0] [(0, rdC bs p)] 1 (fun x δ => ∃ c', δ = [(0, some c')] ∧ rvR bs p 8 x c') := by
  refine Spec.of (fn := Try.f56) Try.func56 rfl (by kernel_rfl) (rs := [.cell 2 27]) rfl 2 (by simp [Try.f56]) rfl (by simp [Cap.on, X.onL, X.on, rdC]) ?_
  intro hreal
  rintro ⟨P, T, L0, w0, ι0, C0, U0⟩ hP hT hU
  subst hP hT
  refine st ?_
  all_goals first
  | fail_if_success with_reducible refine atR 0 ?_
  | (
    refine rg 0 [] [some 2] 1 ?_
    all_goals refine qP ?_
    all_goals refine qE ?_)
  all_goals first
  | fail_if_success with_reducible refine atR 1 ?_
  | (
    refine rg 1 [1, 4, 7] [some 6, some 7, some 8, some 9, some 10, some 11, some 12, some 13, some 14, some 15, some 3, none] 12 ?_
    all_goals iterate 2 refine qP ?_
    all_goals (
      refine qL_cons ?_
      intro R hR
      refine sm ?_
      refine call_box (of_spec bs [⟨#[115, 105, 100, 101]⟩, ⟨#[100, 101, 118]⟩, ⟨#[109, 97, 105, 110]⟩] (p) (by omega) (by omega) (by decide) (by decide)) rfl rfl ofR_on (ofR_ne _ _) (a := 0) (by decide) cl trivial (fun h => h) ?_ ?_
      · exact ⟨.inl rfl, ⟨.inl rfl, trivial⟩⟩
      rintro _ _ ⟨s1, rfl, rfl⟩
      try refine sm ?_
      all_goals (refine hR _ ?_; clear hR R))
    all_goals iterate 2 refine qP ?_
    all_goals (
      refine qL_cons ?_
      intro R hR
      refine sm ?_
      refine call_box (of_spec bs [⟨#[109, 97, 105, 110]⟩, ⟨#[109, 97, 105, 110]⟩, ⟨#[100, 101, 118]⟩] (p + 1) (by omega) (by omega) (by decide) (by decide)) rfl rfl ofR_on (ofR_ne _ _) (a := 0) (by decide) cl trivial (fun h => h) ?_ ?_
      · exact ⟨.inl rfl, ⟨.inl rfl, trivial⟩⟩
      rintro _ _ ⟨s2, rfl, rfl⟩
      try refine sm ?_
      all_goals (refine hR _ ?_; clear hR R))
    all_goals iterate 2 refine qP ?_
    all_goals (
      refine qL_cons ?_
      intro R hR
      refine sm ?_
      refine call_box (of_spec bs [⟨#[97, 110, 110]⟩, ⟨#[98, 111, 98]⟩, ⟨#[101, 118, 101]⟩] (p + 1 + 1) (by omega) (by omega) (by decide) (by decide)) rfl rfl ofR_on (ofR_ne _ _) (a := 0) (by decide) cl trivial (fun h => h) ?_ ?_
      · exact ⟨.inl rfl, ⟨.inl rfl, trivial⟩⟩
      rintro _ _ ⟨s3, rfl, rfl⟩
      try refine sm ?_
      all_goals (refine hR _ ?_; clear hR R))
    all_goals iterate 3 refine qP ?_
    all_goals refine qE ?_)
  all_goals refine AW.view (Vw.ownB 9 1 13 3 (tyB := 27) cl rfl) ?_
  all_goals first
  | fail_if_success with_reducible refine atR 2 ?_
  | (
    refine rg 2 [0] [some 16, some 4] 2 ?_
    all_goals iterate 2 refine qP ?_
    all_goals refine qE ?_)
  all_goals first
  | fail_if_success with_reducible refine atR 3 ?_
  | (
    refine rg 3 [] [some 5] 1 ?_
    all_goals refine qP ?_
    all_goals refine qE ?_)
  all_goals first
  | fail_if_success with_reducible refine AW.rounds (α := (Nat × List ByteArray × Int)) ?_ ?_ ?_ ?_ ?_ ?_ ?_ ?_
  | (
    refine AW.rounds (α := (Nat × List ByteArray × Int)) (fun z => z.1 ≤ 3 ∧ z.2.1.length ≤ z.1 ∧ p ≤ z.2.2 ∧ z.2.2 ≤ p + 3 + z.1) (fun z => St.by [(0, .bx 0 0), (2, .bx 2 0), (3, .bx 13 0), (4, .d (strs [⟨#[97, 110, 110]⟩, ⟨#[98, 111, 98]⟩, ⟨#[99, 105, 100]⟩])), (5, .d (.int .i64 z.1))] [(0, rdC bs z.2.2), (2, .box 27 [.d (.str ByteArray.empty), .d (.str ByteArray.empty), .d (.str ByteArray.empty), .nil]), (13, .box 27 [.d (.str s1), .d (.str s2), .d (.str s3), .vec 15 1 0 z.2.1.length]), (15, .vec 9 1 (z.2.1.map sS))]) (fun z => 3 - z.1) 16 (0, [], p + 1 + 1 + 1) ?_ ?_ ?_
    · exact ⟨by simp, by simp, by simp only; omega, by simp only; omega⟩
    · refine Vw.to [] _ _ (vU hU) ?_ ?_ (by simp [tauL])
      · refine vx (vx (vx (vd (vw_d ?_ (trivial)))))
        · first
          | exact cl2
          | (
            refine sm2 ?_
            all_goals (
             rfl))
      · exact ⟨⟨by simp, rfl, cl3⟩, ⟨by simp, rfl, cl3⟩, ⟨by simp, rfl, cl3⟩, ⟨by simp, rfl, cl3⟩, trivial⟩
    · intro z hJ
      refine st ?_
      obtain ⟨hJ1, hJ2, hJ3, hJ4⟩ := hJ
      all_goals first
      | fail_if_success with_reducible refine atR 4 ?_
      | (
        refine rg 4 [] [some 17, some 18, some 19, some 20] 4 ?_
        all_goals iterate 4 refine qP ?_
        all_goals refine qE ?_)
      all_goals first
      | fail_if_success with_reducible refine atC 20 ?_
      | (
        refine cn 20 ?_ ?_ <;> intro hc20 <;> try (cases hc20; done)
        all_goals refine st ?_)
      all_goals first
      | fail_if_success with_reducible refine atR 6 ?_
      | (
        refine rg 6 [] [some 23, some 24, some 25] 3 ?_
        all_goals refine qP ?_
        all_goals (
          refine qL_cons ?_
          intro R hR
          refine sm ?_
          refine call_box (pick_spec bs 2 (z.2.2) (by omega) (by omega) (by omega)) rfl rfl pickR_on (pickR_ne _ _ _) (a := 0) (by decide) cl trivial (fun h => h) ?_ ?_
          · exact ⟨.inl rfl, ⟨.inl rfl, trivial⟩⟩
          rintro _ _ ⟨r, rfl, r0, r1, rfl⟩
          try refine sm ?_
          all_goals (refine hR _ ?_; clear hR R))
        all_goals refine qP ?_
        all_goals refine qE ?_)
      all_goals first
      | fail_if_success with_reducible refine atC 25 ?_
      | (
        refine cn 25 ?_ ?_ <;> intro hc25 <;> try (cases hc25; done)
        all_goals refine st ?_)
      all_goals first
      | fail_if_success with_reducible refine atR 7 ?_
      | (
        refine rgW 7 [6] [some 26, some 27, some 28, some 29, some 30, some 31, some 32, some 33, some 34, none] 10 11 [(7, [15]), (9, [13])] ?_
        intro av wr hav hwr
        have hf1_13 := avD 1 13 hav
        have hf7_15 := avD 7 15 hav
        have hf9_13 := avD 9 13 hav
        have hw7_15 := wrD 7 15 hwr
        have hw9_13 := wrD 9 13 hwr
        all_goals refine qP ?_
        all_goals (
          refine qL_cons ?_
          intro R hR
          simp only [go_sem, reduceIte, reduceCtorEq, Nat.reduceAdd, Nat.reduceEqDiff, Nat.reduceLeDiff, Nat.reduceLT, Nat.reduceSub, Int.reduceLE, Int.reduceNeg, Int.reduceLT, hf1_13, hf7_15, hf9_13, hw7_15, hw9_13]
          all_goals (refine hR _ ?_; clear hR R))
        all_goals iterate 2 refine qP ?_
        all_goals (
          refine qL_cons ?_
          intro R hR
          simp only [go_sem, reduceIte, reduceCtorEq, Nat.reduceAdd, Nat.reduceEqDiff, Nat.reduceLeDiff, Nat.reduceLT, Nat.reduceSub, Int.reduceLE, Int.reduceNeg, Int.reduceLT, hf1_13, hf7_15, hf9_13, hw7_15, hw9_13]
          refine ⟨⟨by omega, by omega⟩, ?_⟩
          intro c hc
          obtain ⟨y, hy, rfl⟩ := row_get (ss := [⟨#[97, 110, 110]⟩, ⟨#[98, 111, 98]⟩, ⟨#[99, 105, 100]⟩]) hc
          refine ⟨rfl, ?_⟩
          all_goals (refine hR _ ?_; clear hR R))
        all_goals (
          refine qL_cons ?_
          intro R hR
          simp only [go_sem, reduceIte, reduceCtorEq, Nat.reduceAdd, Nat.reduceEqDiff, Nat.reduceLeDiff, Nat.reduceLT, Nat.reduceSub, Int.reduceLE, Int.reduceNeg, Int.reduceLT, hf1_13, hf7_15, hf9_13, hw7_15, hw9_13]
          all_goals (refine hR _ ?_; clear hR R))
        all_goals refine qP ?_
        all_goals (
          refine qL_cons ?_
          intro R hR
          simp only [go_sem, reduceIte, reduceCtorEq, Nat.reduceAdd, Nat.reduceEqDiff, Nat.reduceLeDiff, Nat.reduceLT, Nat.reduceSub, Int.reduceLE, Int.reduceNeg, Int.reduceLT, hf1_13, hf7_15, hf9_13, hw7_15, hw9_13]
          refine ⟨by simp [sS], by omega, ?_⟩
          all_goals (refine hR _ ?_; clear hR R))
        all_goals refine qP ?_
        all_goals (
          refine qL_cons ?_
          intro R hR
          simp only [go_sem, reduceIte, reduceCtorEq, Nat.reduceAdd, Nat.reduceEqDiff, Nat.reduceLeDiff, Nat.reduceLT, Nat.reduceSub, Int.reduceLE, Int.reduceNeg, Int.reduceLT, hf1_13, hf7_15, hf9_13, hw7_15, hw9_13]
          all_goals (refine hR _ ?_; clear hR R))
        all_goals refine qE ?_
        all_goals clear hf1_13 hf7_15 hf9_13 hw7_15 hw9_13 hav hwr wr av)
      all_goals first
      | fail_if_success with_reducible refine atR 5 ?_
      | (
        refine rg 5 [] [some 21, some 22, some 5] 3 ?_
        all_goals refine qP ?_
        all_goals (
          refine qL_cons ?_
          intro R hR
          refine sm ?_
          rw [wrap64 (by omega) (by omega)]
          all_goals (refine hR _ ?_; clear hR R))
        all_goals refine qP ?_
        all_goals refine qE ?_)
      all_goals first
      | fail_if_success with_reducible refine ⟨(z.1 + 1, z.2.1, z.2.2), ?_, ?_, ?_⟩
      | (
          refine ⟨(z.1 + 1, z.2.1 ++ [y], z.2.2 + 1), ?_, ?_, ?_⟩
          · refine ⟨by simp only; omega, by simp; omega, by simp only; omega, by simp only; omega⟩
          · simp only; omega
          · refine Vw.to [(15, 30)] _ _ (fun n hn => by have := hU n hn; have h0 : n = 0 := (by omega); subst h0; exact ⟨by decide, rfl⟩) ?_ ?_ (by simp [tauL])
            · refine vx (vx (vx (vd (vw_d ?_ trivial))))
              refine sm2 ?_
              congr 1
            · refine ⟨⟨by simp, rfl, cl3⟩, ⟨by simp, rfl, cl3⟩, ⟨by simp, rfl, ?_⟩, ⟨by simp, rfl, ?_⟩, trivial⟩
              all_goals first
              | exact cl3
              | (simp [tauL, Cap.ren, upd, look, lookC, St.by, X.renL, X.ren, sS, putF]; done))
      | (
          refine ⟨(z.1 + 1, z.2.1, z.2.2 + 1), ?_, ?_, ?_⟩
          · refine ⟨by simp only; omega, by simp; omega, by simp only; omega, by simp only; omega⟩
          · simp only; omega
          · refine Vw.to [] _ _ (fun n hn => by have := hU n hn; have h0 : n = 0 := (by omega); subst h0; exact ⟨by decide, rfl⟩) ?_ ?_ (by simp [tauL])
            · refine vx (vx (vx (vd (vw_d ?_ trivial))))
              refine sm2 ?_
              congr 1
            · refine ⟨⟨by simp, rfl, cl3⟩, ⟨by simp, rfl, cl3⟩, ⟨by simp, rfl, ?_⟩, ⟨by simp, rfl, ?_⟩, trivial⟩
              all_goals first
              | exact cl3
              | (simp [tauL, Cap.ren, upd, look, lookC, St.by, X.renL, X.ren, sS, putF]; done))
      all_goals first
      | fail_if_success with_reducible refine atR 8 ?_
      | (
        refine rg 8 [] [some 35, some 36, some 37] 3 ?_
        all_goals refine qP ?_
        all_goals (
          refine qL_cons ?_
          intro R hR
          refine sm ?_
          refine call_box (pick_spec bs 14 (z.2.2) (by omega) (by omega) (by omega)) rfl rfl pickR_on (pickR_ne _ _ _) (a := 0) (by decide) cl trivial (fun h => h) ?_ ?_
          · exact ⟨.inl rfl, ⟨.inl rfl, trivial⟩⟩
          rintro _ _ ⟨r2, rfl, r20, r21, rfl⟩
          try refine sm ?_
          all_goals (refine hR _ ?_; clear hR R))
        all_goals refine qP ?_
        all_goals refine qE ?_)
      all_goals first
      | fail_if_success with_reducible refine atC 37 ?_
      | (
        refine cn 37 ?_ ?_ <;> intro hc37 <;> try (cases hc37; done)
        all_goals refine st ?_)
      all_goals first
      | fail_if_success with_reducible refine atR 9 ?_
      | (
        refine rg 9 [2] [some 38, some 39, some 40, some 41, some 42, none] 6 ?_
        all_goals iterate 3 refine qP ?_
        all_goals (
          refine qL_cons ?_
          intro R hR
          refine sm ?_
          refine ⟨by simp, by omega, ?_⟩
          all_goals (refine hR _ ?_; clear hR R))
        all_goals iterate 2 refine qP ?_
        all_goals refine qE ?_)
      all_goals first
      | fail_if_success with_reducible refine atR 10 ?_
      | (
        refine rg 10 [] [some 43, none] 2 ?_
        all_goals iterate 2 refine qP ?_
        all_goals refine qE ?_)
      all_goals first
      | exact ret_boxV (R := rvR bs p 8) (c1 := rdC bs (z.2.2 + 1)) (Vw.frz 15 1 (z.2.1.map sS) cl) [RVx ⟨s1, s2, s3, z.2.1⟩] ⟨cl, trivial⟩ (fun _ => rfl) cl rfl ⟨_, rfl, _, by omega, by omega, rfl⟩
      | (
        refine ret_boxV (R := rvR bs p 8) (c1 := rdC bs (z.2.2 + 1)) (Vw.frz (ty := 9) 26 1 ((z.2.1 ++ [(⟨#[97, 110, 110]⟩ : ByteArray)]).map sS) ?_) [RVx ⟨s1, s2, s3, z.2.1 ++ [(⟨#[97, 110, 110]⟩ : ByteArray)]⟩] ⟨?_, trivial⟩ (fun _ => rfl) ?_ rfl ⟨_, rfl, _, by omega, by omega, rfl⟩
        · refine sm ?_
          simp [sS]
        · refine sm ?_
          simp [RVx, sS, strs, D.of]
        · exact cl))
  all_goals first
  | exact ret_boxV (R := rvR bs p 8) (c1 := rdC bs (z.2.2 + 1)) (Vw.frz 15 1 (z.2.1.map sS) cl) [RVx ⟨s1, s2, s3, z.2.1⟩] ⟨cl, trivial⟩ (fun _ => rfl) cl rfl ⟨_, rfl, _, by omega, by omega, rfl⟩
  | (
    refine ret_boxV (R := rvR bs p 8) (c1 := rdC bs (z.2.2 + 1)) (Vw.frz (ty := 9) 26 1 ((z.2.1 ++ [(⟨#[97, 110, 110]⟩ : ByteArray)]).map sS) ?_) [RVx ⟨s1, s2, s3, z.2.1 ++ [(⟨#[97, 110, 110]⟩ : ByteArray)]⟩] ⟨?_, trivial⟩ (fun _ => rfl) ?_ rfl ⟨_, rfl, _, by omega, by omega, rfl⟩
    · refine sm ?_
      simp [sS]
    · refine sm ?_
      simp [RVx, sS, strs, D.of]
    · exact cl)

end
section
attribute [local go_sem] tsz9 tsz22 tsz27 tfld27 tel22 toNat_cast und9 zero27 iz9 RVx
theorem DrawReviewYes_spec (bs : List UInt8) : FunE Try.prog 22 [.d (.of bX bs)] (fun x => ∃ v : Rv, ∃ who : ByteArray, x = .tup [RVx v, .d (.str who)]) := by
  refine FunE.of ?_ rfl (by rintro x ⟨v, who, rfl⟩; rfl)
  refine Spec.of (fn := Try.f22) Try.func22 rfl (by kernel_rfl) (rs := [.cell 2 27, .tmp 3]) rfl 1 (by simp [Try.f22]) rfl (by simp) ?_
  intro hreal
  rintro ⟨P, T, L0, w0, ι0, C0, U0⟩ hP hT hU
  subst hP hT
  refine st ?_
  all_goals first
  | fail_if_success with_reducible refine atR 0 ?_
  | (
    refine rg 0 [] [some 2, some 3] 2 ?_
    all_goals iterate 2 refine qP ?_
    all_goals refine qE ?_)
  all_goals first
  | fail_if_success with_reducible refine atR 1 ?_
  | (
    refine rg 1 [] [some 6, some 7, some 4] 3 ?_
    all_goals refine qP ?_
    all_goals (
      refine qL_cons ?_
      intro R hR
      refine sm ?_
      refine call_new (l30Open_spec bs) ?_ ?_
      · exact ⟨.inl rfl, trivial⟩
      refine sm ?_
      all_goals (refine hR _ ?_; clear hR R))
    all_goals refine qP ?_
    all_goals refine qE ?_)
  all_goals first
  | fail_if_success with_reducible refine atR 2 ?_
  | (
    refine rg 2 [] [some 8, some 9, some 5, none] 4 ?_
    all_goals refine qP ?_
    all_goals (
      refine qL_cons ?_
      intro R hR
      refine sm ?_
      refine call_box (l30Review_spec (cutB bs) 0 (by omega) (by omega)) rfl rfl rvR_on (rvR_ne _ _ _ (by omega)) (a := 4) (by decide) cl trivial (fun h => h) ?_ ?_
      · exact ⟨.inl rfl, trivial⟩
      rintro _ _ ⟨v, rfl, q, hq1, hq2, rfl⟩
      try refine sm ?_
      all_goals (refine hR _ ?_; clear hR R))
    all_goals iterate 2 refine qP ?_
    all_goals refine qE ?_)
  all_goals first
  | fail_if_success with_reducible refine atR 3 ?_
  | (
    refine rgW 3 [2] [some 10, some 11, some 12, some 13, none, some 3] 6 7 [(3, [4]), (4, [1])] ?_
    intro av wr hav hwr
    have hf0_8 := avD 0 8 hav
    have hf3_4 := avD 3 4 hav
    have hf4_1 := avD 4 1 hav
    have hw3_4 := wrD 3 4 hwr
    have hw4_1 := wrD 4 1 hwr
    all_goals (
      refine qL_cons ?_
      intro R hR
      simp only [go_sem, reduceIte, reduceCtorEq, Nat.reduceAdd, Nat.reduceEqDiff, Nat.reduceLeDiff, Nat.reduceLT, Nat.reduceSub, Int.reduceLE, Int.reduceNeg, Int.reduceLT, hf0_8, hf3_4, hf4_1, hw3_4, hw4_1]
      all_goals (refine hR _ ?_; clear hR R))
    all_goals iterate 2 refine qP ?_
    all_goals (
      refine qL_cons ?_
      intro R hR
      simp only [go_sem, reduceIte, reduceCtorEq, Nat.reduceAdd, Nat.reduceEqDiff, Nat.reduceLeDiff, Nat.reduceLT, Nat.reduceSub, Int.reduceLE, Int.reduceNeg, Int.reduceLT, hf0_8, hf3_4, hf4_1, hw3_4, hw4_1]
      refine call_box (of_spec (cutB bs) [⟨#[97, 110, 110]⟩, ⟨#[98, 111, 98]⟩, ⟨#[122, 111, 101]⟩, ⟨#[]⟩] q (by omega) (by omega) (by decide) (by decide)) rfl rfl ofR_on (ofR_ne _ _) (a := 4) (by decide) cl (by simp only [hw3_4]) (by simp only [hf3_4]; exact fun h => h) ?_ ?_
      · exact ⟨.inl rfl, ⟨.inl rfl, trivial⟩⟩
      rintro _ _ ⟨who, rfl, rfl⟩
      try refine sm ?_
      all_goals (refine hR _ ?_; clear hR R))
    all_goals (
      refine qL_cons ?_
      intro R hR
      simp only [go_sem, reduceIte, reduceCtorEq, Nat.reduceAdd, Nat.reduceEqDiff, Nat.reduceLeDiff, Nat.reduceLT, Nat.reduceSub, Int.reduceLE, Int.reduceNeg, Int.reduceLT, hf0_8, hf3_4, hf4_1, hw3_4, hw4_1]
      all_goals (refine hR _ ?_; clear hR R))
    all_goals refine qP ?_
    all_goals refine qE ?_
    all_goals clear hf0_8 hf3_4 hf4_1 hw3_4 hw4_1 hav hwr wr av)
  all_goals exact ⟨_, _, Vw.refl _ _ _, [], [RVx v, .d (.str who)], fun n hn => by simp at hn, ⟨cl, cl, trivial⟩, rfl, ⟨v, who, rfl⟩, rfl⟩

end
end Go.Proofs.Ytmlbdicaeefomaa
namespace Go.Proofs.Ytmlbdicaeefomaa
open Go Go.RowKit
set_option maxRecDepth 100000
set_option linter.unusedSimpArgs false
set_option linter.unusedVariables false
attribute [local go_sem] List.size_toArray Int.toNat_zero Nat.sub_zero size_mk top_val eq_self datL X.dat u8min u8max i64min i64max stepT gdO aop ev lit litOk putF fzX_false putO upd app List.contains_nil List.elem_nil aBin aInt aStr aBool aLen lenTy aBuiltin aLoad aTake aTakeX aStore splice aSlice aBd look_cons look_nil lookC_cons lookC_nil by_s by_C start_s start_C X.cells X.cell List.all_cons List.all_nil Bool.and_self Bool.not_true Bool.not_false false_implies true_implies forall_const and_true true_and and_self implies_true not_false_eq_true Nat.zero_add Nat.add_zero List.getD_cons_zero List.getD_cons_succ List.map_cons List.map_nil Option.bind_some Option.map_some Option.map_none List.getElem?_cons_zero List.getElem?_cons_succ List.length_cons List.length_nil List.drop_zero List.drop_succ_cons List.take_succ_cons List.take_zero List.cons_append List.nil_append List.append_nil D.of List.length_map all_get_map Option.isSome_some and_false false_and Nat.lt_add_one Nat.zero_lt_succ decide_true decide_false aPart Nat.lt_irrefl fzX litEs List.contains_cons List.elem_cons Bool.true_or Bool.or_true Bool.false_or Bool.or_false beq_self_eq_true
def lbB (c : UInt8) : Bool := !decide ((c.toNat : Int) < 32) && !decide (126 < (c.toNat : Int))
def lnB (s : ByteArray) : Bool := s.data.toList.all lbB && decide ((s.size : Int) ≤ 12)
theorem ln_end {s : ByteArray} {i : Nat} (h : ∀ j c, j < i → s.data[j]? = some c → lbB c = true) (hi : s.size ≤ i) : decide ((s.size : Int) ≤ 12) = lnB s := by
  have : s.data.toList.all lbB = true := by
    rw [List.all_eq_true]
    intro c hc
    obtain ⟨j, hj, rfl⟩ := List.mem_iff_getElem.1 hc
    have hj' : j < s.data.size := by simpa using hj
    refine h j _ (by have : s.size = s.data.size := rfl; omega) ?_
    simp
  simp [lnB, this]
theorem ln_bad {s : ByteArray} {i : Nat} {c : UInt8} (h : s.data[i]? = some c) (hc : lbB c = false) : false = lnB s := by
  have : s.data.toList.all lbB = false := by
    rw [List.all_eq_false]
    refine ⟨c, ?_, by simp [hc]⟩
    rw [Array.mem_toList_iff]; exact Array.mem_of_getElem? h
  simp [lnB, this]
section
attribute [local go_sem] und9 toNat_cast
theorem lineOk_spec (s : ByteArray) : Fun Try.prog 77 [.d (.str s)] (.d (.bool (lnB s))) := by
  refine Fun.of ?_ rfl rfl
  refine Spec.of (fn := Try.f77) Try.func77 rfl (by kernel_rfl) (rs := [.tmp 2]) rfl 1 (by simp [Try.f77]) rfl (by simp) ?_
  intro hreal
  rintro ⟨P, T, L0, w0, ι0, C0, U0⟩ hP hT hU
  subst hP hT
  refine st ?_
  have hlen : s.size ≤ 9223372036854775807 := D.real_str (X.real_d (hreal _ (by simp)))
  all_goals first
  | fail_if_success with_reducible refine atR 0 ?_
  | (
    refine rg 0 [] [some 2] 1 ?_
    all_goals refine qP ?_
    all_goals refine qE ?_)
  all_goals first
  | fail_if_success with_reducible refine atR 1 ?_
  | (
    refine rg 1 [] [some 4, some 5, some 6] 3 ?_
    all_goals iterate 3 refine qP ?_
    all_goals refine qE ?_)
  all_goals first
  | fail_if_success with_reducible refine AW.rounds (α := Nat) ?_ ?_ ?_ ?_ ?_ ?_ ?_ ?_
  | (
    refine AW.rounds (α := Nat) (fun i => i ≤ s.size ∧ ∀ j c, j < i → s.data[j]? = some c → lbB c = true) (fun i => St.by [(0, .d (.str s)), (5, .d (.int .i64 s.size)), (6, .d (.int .i64 i))] []) (fun i => s.size - i) 1 0 ?_ ?_ ?_
    · exact ⟨by omega, fun j c hj => by omega⟩
    · refine Vw.to [] _ _ (vU hU) ?_ ?_ (by simp [tauL])
      · refine vd (vd (vw_d ?_ (trivial)))
        · first
          | exact cl2
          | (
            refine sm2 ?_
            all_goals (
             rfl))
      · trivial
    · intro i hJ
      refine st ?_
      all_goals first
      | fail_if_success with_reducible refine atR 2 ?_
      | (
        refine rg 2 [] [some 7] 1 ?_
        all_goals refine qP ?_
        all_goals refine qE ?_)
      all_goals first
      | fail_if_success with_reducible refine atC 7 ?_
      | (
        refine cn 7 ?_ ?_ <;> intro hc7 <;> try (cases hc7; done)
        all_goals refine st ?_)
      all_goals first
      | fail_if_success with_reducible refine atR 3 ?_
      | (
        refine rg 3 [] [some 8, some 3] 2 ?_
        all_goals iterate 2 refine qP ?_
        all_goals refine qE ?_)
      all_goals first
      | fail_if_success with_reducible refine atR 4 ?_
      | (
        refine rg 4 [] [some 9, some 10, some 11, some 12, some 13, some 14, some 15, some 16, some 17, some 18] 10 ?_
        all_goals iterate 2 refine qP ?_
        all_goals (
          refine qL_cons ?_
          intro R hR
          refine sm ?_
          refine ⟨⟨by omega, by omega⟩, ?_⟩
          intro c2 hcc2
          all_goals (refine hR _ ?_; clear hR R))
        all_goals iterate 2 refine qP ?_
        all_goals first | refine qU 13 ?_ | (refine qS 13 ?_ ?_ <;> intro hg4_4 <;> try (cases hg4_4; done))
        all_goals iterate 2 refine qP ?_
        all_goals first
        | (
          refine qL_cons ?_
          intro R hR
          refine sm ?_
          refine ⟨⟨by omega, by omega⟩, ?_⟩
          intro c7 hcc7
          refine hR _ ?_
          clear hR R)
        | refine qP ?_
        all_goals iterate 2 refine qP ?_
        all_goals refine qE ?_)
      all_goals first
      | fail_if_success with_reducible refine atC 18 ?_
      | (
        refine cn 18 ?_ ?_ <;> intro hc18 <;> try (cases hc18; done)
        all_goals refine st ?_)
      all_goals first
      | fail_if_success with_reducible refine atR 5 ?_
      | (
        refine rg 5 [] [some 2] 1 ?_
        all_goals refine qP ?_
        all_goals refine qE ?_)
      all_goals first
      | fail_if_success with_reducible refine atR 6 ?_
      | (
        refine rg 6 [] [some 19, some 6] 2 ?_
        all_goals (
          refine qL_cons ?_
          intro R hR
          refine sm ?_
          rw [wrap64 (by omega) (by omega)]
          all_goals (refine hR _ ?_; clear hR R))
        all_goals refine qP ?_
        all_goals refine qE ?_)
      all_goals first
      | fail_if_success with_reducible refine atR 7 ?_
      | (
        refine rg 7 [] [some 20, some 21, some 22, some 2] 4 ?_
        all_goals iterate 4 refine qP ?_
        all_goals refine qE ?_)
      all_goals first
      | fail_if_success with_reducible refine ⟨i + 1, ?_, ?_, ?_⟩
      | (
        refine ⟨i + 1, ?_, ?_, ?_⟩
        · refine ⟨by omega, fun j d hj hd => ?_⟩
          by_cases hji : j = i
          · subst hji; rw [hcc2] at hd; cases hd; (simp_all [lbB] <;> omega)
          · exact hJ.2 j d (by omega) hd
        · omega
        · refine Vw.to [] _ _ (vU hU) ?_ ?_ (by simp [tauL])
          · refine vd (vd (vw_d ?_ (trivial)))
            · first
              | exact cl2
              | (
                refine sm2 ?_
                all_goals (
                 congr 1))
          · trivial)
      all_goals first
      | fail_if_success with_reducible refine ret_fun (t := 2) ?_ ?_
      | (
        refine ret_fun (t := 2) ?_ (fun _ => rfl)
        first
        | exact cl
        | (
          try refine sm ?_
          all_goals (
           first
             | (congr 1; congr 1; exact ln_end hJ.2 (by omega))
             | (congr 1; congr 1; refine ln_bad hcc2 ?_; simp_all [lbB] <;> omega)))))

end
section
attribute [local go_sem] und9 toNat_cast
theorem l1Line_spec (s : ByteArray) : Fun Try.prog 85 [.d (.str s)] (.d (.bool (lnB s))) := by
  refine Fun.of ?_ rfl rfl
  refine Spec.of (fn := Try.f85) Try.func85 rfl (by kernel_rfl) (rs := [.tmp 2]) rfl 1 (by simp [Try.f85]) rfl (by simp) ?_
  intro hreal
  rintro ⟨P, T, L0, w0, ι0, C0, U0⟩ hP hT hU
  subst hP hT
  refine st ?_
  have hlen : s.size ≤ 9223372036854775807 := D.real_str (X.real_d (hreal _ (by simp)))
  all_goals first
  | fail_if_success with_reducible refine atR 0 ?_
  | (
    refine rg 0 [] [some 2] 1 ?_
    all_goals refine qP ?_
    all_goals refine qE ?_)
  all_goals first
  | fail_if_success with_reducible refine atR 1 ?_
  | (
    refine rg 1 [] [some 3] 1 ?_
    all_goals refine qP ?_
    all_goals refine qE ?_)
  all_goals first
  | fail_if_success with_reducible refine AW.rounds (α := Nat) ?_ ?_ ?_ ?_ ?_ ?_ ?_ ?_
  | (
    refine AW.rounds (α := Nat) (fun i => i ≤ s.size ∧ ∀ j c, j < i → s.data[j]? = some c → lbB c = true) (fun i => St.by [(0, .d (.str s)), (3, .d (.int .i64 i))] []) (fun i => s.size - i) 1 0 ?_ ?_ ?_
    · exact ⟨by omega, fun j c hj => by omega⟩
    · refine Vw.to [] _ _ (vU hU) ?_ ?_ (by simp [tauL])
      · refine vd (vw_d ?_ (trivial))
        · first
          | exact cl2
          | (
            refine sm2 ?_
            all_goals (
             rfl))
      · trivial
    · intro i hJ
      refine st ?_
      all_goals first
      | fail_if_success with_reducible refine atR 2 ?_
      | (
        refine rg 2 [] [some 4, some 5, some 6, some 7] 4 ?_
        all_goals iterate 4 refine qP ?_
        all_goals refine qE ?_)
      all_goals first
      | fail_if_success with_reducible refine atC 7 ?_
      | (
        refine cn 7 ?_ ?_ <;> intro hc7 <;> try (cases hc7; done)
        all_goals refine st ?_)
      all_goals first
      | fail_if_success with_reducible refine atR 4 ?_
      | (
        refine rg 4 [] [some 10, some 11, some 12, some 13, some 14, some 15, some 16, some 17, some 18, some 19] 10 ?_
        all_goals iterate 2 refine qP ?_
        all_goals (
          refine qL_cons ?_
          intro R hR
          refine sm ?_
          refine ⟨⟨by omega, by omega⟩, ?_⟩
          intro c2 hcc2
          all_goals (refine hR _ ?_; clear hR R))
        all_goals iterate 2 refine qP ?_
        all_goals first | refine qU 14 ?_ | (refine qS 14 ?_ ?_ <;> intro hg4_4 <;> try (cases hg4_4; done))
        all_goals iterate 2 refine qP ?_
        all_goals first
        | (
          refine qL_cons ?_
          intro R hR
          refine sm ?_
          refine ⟨⟨by omega, by omega⟩, ?_⟩
          intro c7 hcc7
          refine hR _ ?_
          clear hR R)
        | refine qP ?_
        all_goals iterate 2 refine qP ?_
        all_goals refine qE ?_)
      all_goals first
      | fail_if_success with_reducible refine atC 19 ?_
      | (
        refine cn 19 ?_ ?_ <;> intro hc19 <;> try (cases hc19; done)
        all_goals refine st ?_)
      all_goals first
      | fail_if_success with_reducible refine atR 5 ?_
      | (
        refine rg 5 [] [some 2] 1 ?_
        all_goals refine qP ?_
        all_goals refine qE ?_)
      all_goals first
      | fail_if_success with_reducible refine atR 3 ?_
      | (
        refine rg 3 [] [some 8, some 9, some 3] 3 ?_
        all_goals refine qP ?_
        all_goals (
          refine qL_cons ?_
          intro R hR
          refine sm ?_
          rw [wrap64 (by omega) (by omega)]
          all_goals (refine hR _ ?_; clear hR R))
        all_goals refine qP ?_
        all_goals refine qE ?_)
      all_goals first
      | fail_if_success with_reducible refine atR 6 ?_
      | (
        refine rg 6 [] [some 20, some 21, some 22, some 2] 4 ?_
        all_goals iterate 4 refine qP ?_
        all_goals refine qE ?_)
      all_goals first
      | fail_if_success with_reducible refine ⟨i + 1, ?_, ?_, ?_⟩
      | (
        refine ⟨i + 1, ?_, ?_, ?_⟩
        · refine ⟨by omega, fun j d hj hd => ?_⟩
          by_cases hji : j = i
          · subst hji; rw [hcc2] at hd; cases hd; (simp_all [lbB] <;> omega)
          · exact hJ.2 j d (by omega) hd
        · omega
        · refine Vw.to [] _ _ (vU hU) ?_ ?_ (by simp [tauL])
          · refine vd (vw_d ?_ (trivial))
            · first
              | exact cl2
              | (
                refine sm2 ?_
                all_goals (
                 congr 1))
          · trivial)
      all_goals first
      | fail_if_success with_reducible refine ret_fun (t := 2) ?_ ?_
      | (
        refine ret_fun (t := 2) ?_ (fun _ => rfl)
        first
        | exact cl
        | (
          try refine sm ?_
          all_goals (
           first
             | (congr 1; congr 1; exact ln_end hJ.2 (by omega))
             | (congr 1; congr 1; refine ln_bad hcc2 ?_; simp_all [lbB] <;> omega)))))

end
end Go.Proofs.Ytmlbdicaeefomaa
