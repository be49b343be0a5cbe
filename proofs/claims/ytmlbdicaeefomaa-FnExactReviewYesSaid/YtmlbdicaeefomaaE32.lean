/- a code opened; one of some strings drawn. No condition. -/
import Derived.Test.YtmlbdicaeefomaaE31
namespace Go.Proofs.Ytmlbdicaeefomaa
open Go Go.RowKit
set_option maxRecDepth 100000
set_option linter.unusedSimpArgs false
set_option linter.unusedVariables false
theorem bX_len (l : List UInt8) : ∀ e ∈ l.map bX, e.length = 1 := by
  intro e he
  obtain ⟨s, -, rfl⟩ := List.mem_map.1 he
  rfl
def cutB (bs : List UInt8) : List UInt8 := if 2000 < bs.length then bs.take 2000 else bs
theorem pickR_on {bs : List UInt8} {n p : Int} : ∀ x c', pickR bs n p x c' → x.on (fun _ => false) = true ∧ c'.on (fun _ => false) = true := by
  rintro x c' ⟨r, rfl, -, -, rfl⟩
  exact ⟨rfl, rfl⟩
theorem pickR_ne (bs : List UInt8) (n p : Int) : ∃ x c', pickR bs n p x c' := ⟨_, _, 0, rfl, by omega, .inr rfl, rfl⟩
def ofR (bs : List UInt8) (p : Int) : X → Cap → Prop := fun x c' => ∃ s : ByteArray, x = .d (.str s) ∧ c' = rdC bs (p + 1)
theorem ofR_on {bs : List UInt8} {p : Int} : ∀ x c', ofR bs p x c' → x.on (fun _ => false) = true ∧ c'.on (fun _ => false) = true := by
  rintro x c' ⟨r, rfl, rfl⟩
  exact ⟨rfl, rfl⟩
theorem ofR_ne (bs : List UInt8) (p : Int) : ∃ x c', ofR bs p x c' := ⟨_, _, ByteArray.empty, rfl, rfl⟩
def RVx (v : Rv) : X := .ag [.d (.str v.br), .d (.str v.into), .d (.str v.by_), .d (strs v.yes)]
def rvR (bs : List UInt8) (p k : Int) : X → Cap → Prop := fun x c' => ∃ v : Rv, x = RVx v ∧ ∃ q : Int, p ≤ q ∧ q ≤ p + k ∧ c' = rdC bs q
theorem rvR_on {bs : List UInt8} {p k : Int} : ∀ x c', rvR bs p k x c' → x.on (fun _ => false) = true ∧ c'.on (fun _ => false) = true := by
  rintro x c' ⟨v, rfl, q, -, -, rfl⟩
  exact ⟨rfl, rfl⟩
theorem rvR_ne (bs : List UInt8) (p k : Int) (hk : 0 ≤ k) : ∃ x c', rvR bs p k x c' := ⟨_, _, ⟨ByteArray.empty, ByteArray.empty, ByteArray.empty, []⟩, rfl, p, by omega, by omega, rfl⟩
attribute [local go_sem] List.size_toArray Int.toNat_zero Nat.sub_zero size_mk top_val eq_self datL X.dat u8min u8max i64min i64max stepT gdO aop ev lit litOk putF fzX_false putO upd app List.contains_nil List.elem_nil aBin aInt aStr aBool aLen lenTy aBuiltin aLoad aTake aTakeX aStore splice aSlice aBd look_cons look_nil lookC_cons lookC_nil by_s by_C start_s start_C X.cells X.cell List.all_cons List.all_nil Bool.and_self Bool.not_true Bool.not_false false_implies true_implies forall_const and_true true_and and_self implies_true not_false_eq_true Nat.zero_add Nat.add_zero List.getD_cons_zero List.getD_cons_succ List.map_cons List.map_nil Option.bind_some Option.map_some Option.map_none List.getElem?_cons_zero List.getElem?_cons_succ List.length_cons List.length_nil List.drop_zero List.drop_succ_cons List.take_succ_cons List.take_zero List.cons_append List.nil_append List.append_nil D.of List.length_map all_get_map Option.isSome_some and_false false_and Nat.lt_add_one Nat.zero_lt_succ decide_true decide_false fzX litEs List.contains_cons List.elem_cons Bool.true_or Bool.or_true Bool.false_or Bool.or_false beq_self_eq_true
section
attribute [local go_sem] tsz31 tsz5 tsz3 tsz84 tfld84 tel31 zero84 und3 und5 toNat_cast und9 bX
theorem l30Open_spec (bs : List UInt8) : FunN Try.prog 36 [.d (.of bX bs)] (rdC (cutB bs) 0) := by
  refine FunN.of ?_ rfl rfl
  refine Spec.of (fn := Try.f36) Try.func36 rfl (by kernel_rfl) (rs := [.tmp 2]) rfl 1 (by simp [Try.f36]) rfl (by simp) ?_
  intro hreal
  rintro ⟨P, T, L0, w0, ι0, C0, U0⟩ hP hT hU
  subst hP hT
  refine st ?_
  all_goals first
  | fail_if_success with_reducible refine atR 0 ?_
  | (
    refine rg 0 [] [some 2] 1 ?_
    all_goals refine qP ?_
    all_goals refine qE ?_)
  all_goals first
  | fail_if_success with_reducible refine atR 1 ?_
  | (
    refine rg 1 [] [some 3, some 4, some 5] 3 ?_
    all_goals iterate 3 refine qP ?_
    all_goals refine qE ?_)
  all_goals first
  | fail_if_success with_reducible refine atC 5 ?_
  | (
    refine cn 5 ?_ ?_ <;> intro hc5 <;> try (cases hc5; done)
    all_goals refine st ?_)
  all_goals first
  | fail_if_success with_reducible refine atR 2 ?_
  | (
    refine rg 2 [] [some 6, some 7, some 0] 3 ?_
    all_goals refine qP ?_
    all_goals (
      refine qL_cons ?_
      intro R hR
      refine sm ?_
      refine ⟨bX_len _, by omega, ?_⟩
      rw [← List.map_take]
      all_goals (refine hR _ ?_; clear hR R))
    all_goals refine qP ?_
    all_goals refine qE ?_)
  all_goals first
  | fail_if_success with_reducible refine atR 3 ?_
  | (
    refine rg 3 [] [some 8, some 9, some 10, some 2] 4 ?_
    all_goals iterate 4 refine qP ?_
    all_goals refine qE ?_)
  all_goals first
  | (
    have hb : cutB bs = bs.take 2000 := by unfold cutB; rw [if_pos (by omega)]
    rw [hb]
    exact ret_new 10 hU cl cl rfl)
  | (
    have hb : cutB bs = bs := by unfold cutB; rw [if_neg (by omega)]
    rw [hb]
    exact ret_new 7 hU cl cl rfl)

end
section
attribute [local go_sem] tsz9 tsz22 tel22 toNat_cast und9 caps1 sS
theorem of_spec (bs : List UInt8) (L : List ByteArray) (p : Int) (hp : 0 ≤ p) (hp2 : p ≤ 1000000) (hL : 0 < L.length) (hL2 : L.length ≤ 1000000) : Spec Try.prog 57 [.bx 0 0, .d (strs L)] [(0, rdC bs p)] 1 (fun x δ => ∃ c', δ = [(0, some c')] ∧ ofR bs p x c') := by
  refine Spec.of (fn := Try.f57) Try.func57 rfl (by kernel_rfl) (rs := [.tmp 4]) rfl 2 (by simp [Try.f57]) rfl (by simp [Cap.on, X.onL, X.on, rdC]) ?_
  intro hreal
  rintro ⟨P, T, L0, w0, ι0, C0, U0⟩ hP hT hU
  subst hP hT
  refine st ?_
  all_goals first
  | fail_if_success with_reducible refine atR 0 ?_
  | (
    refine rg 0 [] [some 4] 1 ?_
    all_goals refine qP ?_
    all_goals refine qE ?_)
  all_goals first
  | fail_if_success with_reducible refine atR 1 ?_
  | (
    refine rg 1 [] [some 5, some 6, some 7, some 8, some 9, some 10, some 11, some 4] 8 ?_
    all_goals iterate 4 refine qP ?_
    all_goals (
      refine qL_cons ?_
      intro R hR
      refine sm ?_
      refine call_box (pick_spec bs L.length p hp hp2 (by omega)) rfl rfl pickR_on (pickR_ne _ _ _) (a := 0) (by decide) cl trivial (fun h => h) ?_ ?_
      · exact ⟨.inl rfl, ⟨.inl rfl, trivial⟩⟩
      rintro _ _ ⟨r, rfl, hr0, hr1, rfl⟩
      try refine sm ?_
      all_goals (refine hR _ ?_; clear hR R))
    all_goals (
      refine qL_cons ?_
      intro R hR
      refine sm ?_
      refine ⟨⟨by omega, by omega⟩, ?_⟩
      intro s hs
      all_goals (refine hR _ ?_; clear hR R))
    all_goals iterate 2 refine qP ?_
    all_goals refine qE ?_)
  all_goals exact ret_box (c1 := rdC bs (p + 1)) [.d (.str s)] ⟨cl, trivial⟩ (fun _ => rfl) cl rfl ⟨_, rfl, rfl⟩

end
end Go.Proofs.Ytmlbdicaeefomaa
