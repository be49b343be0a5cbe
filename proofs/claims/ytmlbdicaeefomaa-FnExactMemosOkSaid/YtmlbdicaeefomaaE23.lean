/- sizes of memos. No condition. -/
import Derived.Test.YtmlbdicaeefomaaE22
import Derived.Test.YtmlbdicaeefomaaE12
namespace Go.Proofs.Ytmlbdicaeefomaa
open Go Go.RowKit
set_option maxRecDepth 100000
set_option linter.unusedSimpArgs false
set_option linter.unusedVariables false
theorem tsz69 : tsz Try.prog 69 = some (true, 4) := by kernel_rfl
theorem tfld69 : tfld Try.prog 69 = some [(0, 22), (1, 22), (2, 22), (3, 22)] := by kernel_rfl
theorem tel42 : telem Try.prog 42 = some (69, 4, 96) := by kernel_rfl
abbrev mmX := mX
attribute [local go_sem] List.size_toArray Int.toNat_zero Nat.sub_zero size_mk top_val eq_self datL X.dat u8min u8max i64min i64max stepT gdO aop ev lit litOk putF fzX_false putO upd app List.contains_nil List.elem_nil aBin aInt aStr aBool aLen lenTy aBuiltin aLoad aTake aTakeX aStore splice aSlice aBd look_cons look_nil lookC_cons lookC_nil by_s by_C start_s start_C X.cells X.cell List.all_cons List.all_nil Bool.and_self Bool.not_true Bool.not_false false_implies true_implies forall_const and_true true_and and_self implies_true not_false_eq_true Nat.zero_add Nat.add_zero List.getD_cons_zero List.getD_cons_succ List.map_cons List.map_nil Option.bind_some Option.map_some Option.map_none List.getElem?_cons_zero List.getElem?_cons_succ List.length_cons List.length_nil List.drop_zero List.drop_succ_cons List.take_succ_cons List.take_zero List.cons_append List.nil_append List.append_nil D.of List.length_map all_get_map Option.isSome_some and_false false_and Nat.lt_add_one Nat.zero_lt_succ decide_true decide_false
def szMm (v : Mm) (left : Int) : Int :=
  let a0 := szS v.old left
  if a0 < 0 then -1 else
  let a1 := szS v.one a0
  if a1 < 0 then -1 else
  let a2 := szS v.two a1
  if a2 < 0 then -1 else
  let a3 := szS v.done a2
  if a3 < 0 then -1 else
  a3
theorem szMm_le {v : Mm} {left : Int} (h : 0 ≤ left) : -1 ≤ szMm v left ∧ szMm v left ≤ left := by
  simp only [szMm]
  have q0 := szS_le (l := v.old) (left := left) (by omega)
  split
  · omega
  have q1 := szS_le (l := v.one) (left := (szS v.old left)) (by omega)
  split
  · omega
  have q2 := szS_le (l := v.two) (left := (szS v.one (szS v.old left))) (by omega)
  split
  · omega
  have q3 := szS_le (l := v.done) (left := (szS v.two (szS v.one (szS v.old left)))) (by omega)
  split
  · omega
  constructor <;> omega
theorem szMm_old {v : Mm} {left : Int} (h0 : 0 ≤ left) (h : 0 ≤ szMm v left) : (v.old.length : Int) ≤ left := by
  simp only [szMm] at h
  have q0 := szS_le (l := v.old) (left := left) (by omega)
  have z0 : 0 ≤ szS v.old left → (v.old.length : Int) ≤ left := fun h => szS_len (by omega) h
  split at h
  · omega
  have q1 := szS_le (l := v.one) (left := (szS v.old left)) (by omega)
  split at h
  · omega
  have q2 := szS_le (l := v.two) (left := (szS v.one (szS v.old left))) (by omega)
  split at h
  · omega
  have q3 := szS_le (l := v.done) (left := (szS v.two (szS v.one (szS v.old left)))) (by omega)
  split at h
  · omega
  have := z0 (by omega)
  omega
theorem szMm_one {v : Mm} {left : Int} (h0 : 0 ≤ left) (h : 0 ≤ szMm v left) : (v.one.length : Int) ≤ left := by
  simp only [szMm] at h
  have q0 := szS_le (l := v.old) (left := left) (by omega)
  split at h
  · omega
  have q1 := szS_le (l := v.one) (left := (szS v.old left)) (by omega)
  have z1 : 0 ≤ szS v.one (szS v.old left) → (v.one.length : Int) ≤ (szS v.old left) := fun h => szS_len (by omega) h
  split at h
  · omega
  have q2 := szS_le (l := v.two) (left := (szS v.one (szS v.old left))) (by omega)
  split at h
  · omega
  have q3 := szS_le (l := v.done) (left := (szS v.two (szS v.one (szS v.old left)))) (by omega)
  split at h
  · omega
  have := z1 (by omega)
  omega
theorem szMm_two {v : Mm} {left : Int} (h0 : 0 ≤ left) (h : 0 ≤ szMm v left) : (v.two.length : Int) ≤ left := by
  simp only [szMm] at h
  have q0 := szS_le (l := v.old) (left := left) (by omega)
  split at h
  · omega
  have q1 := szS_le (l := v.one) (left := (szS v.old left)) (by omega)
  split at h
  · omega
  have q2 := szS_le (l := v.two) (left := (szS v.one (szS v.old left))) (by omega)
  have z2 : 0 ≤ szS v.two (szS v.one (szS v.old left)) → (v.two.length : Int) ≤ (szS v.one (szS v.old left)) := fun h => szS_len (by omega) h
  split at h
  · omega
  have q3 := szS_le (l := v.done) (left := (szS v.two (szS v.one (szS v.old left)))) (by omega)
  split at h
  · omega
  have := z2 (by omega)
  omega
theorem szMm_done {v : Mm} {left : Int} (h0 : 0 ≤ left) (h : 0 ≤ szMm v left) : (v.done.length : Int) ≤ left := by
  simp only [szMm] at h
  have q0 := szS_le (l := v.old) (left := left) (by omega)
  split at h
  · omega
  have q1 := szS_le (l := v.one) (left := (szS v.old left)) (by omega)
  split at h
  · omega
  have q2 := szS_le (l := v.two) (left := (szS v.one (szS v.old left))) (by omega)
  split at h
  · omega
  have q3 := szS_le (l := v.done) (left := (szS v.two (szS v.one (szS v.old left)))) (by omega)
  have z3 : 0 ≤ szS v.done (szS v.two (szS v.one (szS v.old left))) → (v.done.length : Int) ≤ (szS v.two (szS v.one (szS v.old left))) := fun h => szS_len (by omega) h
  split at h
  · omega
  have := z3 (by omega)
  omega
section
attribute [local go_sem] tsz9 tsz22 tsz34 tfld34 tel22 tel32 toNat_cast und9 zero34 tsz69 tfld69 tel42
theorem szTMm (v : Mm) (left : Int) (hl : 0 ≤ left) (hl2 : left ≤ 1000000) : Fun Try.prog 50 [.ag [.d (strs v.old), .d (strs v.one), .d (strs v.two), .d (strs v.done)], .d (.int .i64 left)] (.d (.int .i64 (szMm v left))) := by
  refine Fun.of ?_ rfl rfl
  refine Spec.of (fn := Try.f50) Try.func50 rfl (by kernel_rfl) (rs := [.tmp 4]) rfl 1 (by simp [Try.f50]) rfl (by simp) ?_
  intro hreal
  rintro ⟨P, T, L0, w0, ι0, C0, U0⟩ hP hT hU
  subst hP hT
  refine st ?_
  all_goals try have q0 := szS_le (l := v.old) (left := left) (by omega)
  all_goals first
  | fail_if_success with_reducible refine atR 0 ?_
  | (
    refine rg 0 [] [some 2, some 4] 2 ?_
    all_goals iterate 2 refine qP ?_
    all_goals refine qE ?_)
  all_goals first
  | fail_if_success with_reducible refine atR 1 ?_
  | (
    refine rg 1 [] [some 5, some 6, some 7, some 8, some 1] 5 ?_
    all_goals iterate 3 refine qP ?_
    all_goals (
      refine qL_cons ?_
      intro R hR
      refine sm ?_
      refine call_fun (szStringS_spec v.old (left) (by omega) (by omega)) [] ?_ (.inl rfl) ?_
      · exact ⟨.inl rfl, ⟨.inl rfl, trivial⟩⟩
      refine sm ?_
      all_goals (refine hR _ ?_; clear hR R))
    all_goals refine qP ?_
    all_goals refine qE ?_)
  all_goals first
  | fail_if_success with_reducible refine atR 2 ?_
  | (
    refine rg 2 [] [some 9, some 10] 2 ?_
    all_goals iterate 2 refine qP ?_
    all_goals refine qE ?_)
  all_goals first
  | fail_if_success with_reducible refine atC 10 ?_
  | (
    refine cn 10 ?_ ?_ <;> intro hc10 <;> try (cases hc10; done)
    all_goals refine st ?_)
  all_goals try have q1 := szS_le (l := v.one) (left := szS v.old (left)) (by omega)
  all_goals first
  | fail_if_success with_reducible refine atR 3 ?_
  | (
    refine rg 3 [] [some 4] 1 ?_
    all_goals refine qP ?_
    all_goals refine qE ?_)
  all_goals first
  | fail_if_success with_reducible refine atR 4 ?_
  | (
    refine rg 4 [] [some 11, some 12, some 13, some 14, some 1] 5 ?_
    all_goals iterate 3 refine qP ?_
    all_goals (
      refine qL_cons ?_
      intro R hR
      refine sm ?_
      refine call_fun (szStringS_spec v.one (szS v.old (left)) (by omega) (by omega)) [] ?_ (.inl rfl) ?_
      · exact ⟨.inl rfl, ⟨.inl rfl, trivial⟩⟩
      refine sm ?_
      all_goals (refine hR _ ?_; clear hR R))
    all_goals refine qP ?_
    all_goals refine qE ?_)
  all_goals first
  | fail_if_success with_reducible refine atR 5 ?_
  | (
    refine rg 5 [] [some 15, some 16] 2 ?_
    all_goals iterate 2 refine qP ?_
    all_goals refine qE ?_)
  all_goals first
  | fail_if_success with_reducible refine atC 16 ?_
  | (
    refine cn 16 ?_ ?_ <;> intro hc16 <;> try (cases hc16; done)
    all_goals refine st ?_)
  all_goals try have q2 := szS_le (l := v.two) (left := szS v.one (szS v.old (left))) (by omega)
  all_goals first
  | fail_if_success with_reducible refine atR 6 ?_
  | (
    refine rg 6 [] [some 4] 1 ?_
    all_goals refine qP ?_
    all_goals refine qE ?_)
  all_goals first
  | fail_if_success with_reducible refine atR 7 ?_
  | (
    refine rg 7 [] [some 17, some 18, some 19, some 20, some 1] 5 ?_
    all_goals iterate 3 refine qP ?_
    all_goals (
      refine qL_cons ?_
      intro R hR
      refine sm ?_
      refine call_fun (szStringS_spec v.two (szS v.one (szS v.old (left))) (by omega) (by omega)) [] ?_ (.inl rfl) ?_
      · exact ⟨.inl rfl, ⟨.inl rfl, trivial⟩⟩
      refine sm ?_
      all_goals (refine hR _ ?_; clear hR R))
    all_goals refine qP ?_
    all_goals refine qE ?_)
  all_goals first
  | fail_if_success with_reducible refine atR 8 ?_
  | (
    refine rg 8 [] [some 21, some 22] 2 ?_
    all_goals iterate 2 refine qP ?_
    all_goals refine qE ?_)
  all_goals first
  | fail_if_success with_reducible refine atC 22 ?_
  | (
    refine cn 22 ?_ ?_ <;> intro hc22 <;> try (cases hc22; done)
    all_goals refine st ?_)
  all_goals try have q3 := szS_le (l := v.done) (left := szS v.two (szS v.one (szS v.old (left)))) (by omega)
  all_goals first
  | fail_if_success with_reducible refine atR 9 ?_
  | (
    refine rg 9 [] [some 4] 1 ?_
    all_goals refine qP ?_
    all_goals refine qE ?_)
  all_goals first
  | fail_if_success with_reducible refine atR 10 ?_
  | (
    refine rg 10 [] [some 23, some 24, some 25, some 26, some 1] 5 ?_
    all_goals iterate 3 refine qP ?_
    all_goals (
      refine qL_cons ?_
      intro R hR
      refine sm ?_
      refine call_fun (szStringS_spec v.done (szS v.two (szS v.one (szS v.old (left)))) (by omega) (by omega)) [] ?_ (.inl rfl) ?_
      · exact ⟨.inl rfl, ⟨.inl rfl, trivial⟩⟩
      refine sm ?_
      all_goals (refine hR _ ?_; clear hR R))
    all_goals refine qP ?_
    all_goals refine qE ?_)
  all_goals first
  | fail_if_success with_reducible refine atR 11 ?_
  | (
    refine rg 11 [] [some 27, some 28] 2 ?_
    all_goals iterate 2 refine qP ?_
    all_goals refine qE ?_)
  all_goals first
  | fail_if_success with_reducible refine atC 28 ?_
  | (
    refine cn 28 ?_ ?_ <;> intro hc28 <;> try (cases hc28; done)
    all_goals refine st ?_)
  all_goals first
  | fail_if_success with_reducible refine atR 12 ?_
  | (
    refine rg 12 [] [some 4] 1 ?_
    all_goals refine qP ?_
    all_goals refine qE ?_)
  all_goals first
  | fail_if_success with_reducible refine atR 13 ?_
  | (
    refine rg 13 [] [some 29, some 4] 2 ?_
    all_goals iterate 2 refine qP ?_
    all_goals refine qE ?_)
  all_goals first
  | fail_if_success with_reducible refine ret_fun (t := 4) ?_ ?_
  | (
    refine ret_fun (t := 4) ?_ (fun _ => rfl)
    first
    | exact cl
    | (
      try refine sm ?_
      all_goals (
       congr 2; simp only [szMm]; repeat (first | rfl | rw [if_pos (by omega)] | rw [if_neg (by omega)]))))

def szMmGo : List Mm → Int → Int
  | [], x => x
  | s :: r, x => if szMm s x < 0 then -1 else szMmGo r (szMm s x)
def szMms (l : List Mm) (left : Int) : Int := if left - l.length < 0 then -1 else szMmGo l (left - l.length)
theorem szMmGo_le : ∀ (l : List Mm) (x : Int), 0 ≤ x → -1 ≤ szMmGo l x ∧ szMmGo l x ≤ x
  | [], x, h => by simp [szMmGo]; omega
  | s :: r, x, h => by
    simp only [szMmGo]
    have := szMm_le (v := s) h
    split
    · omega
    · have := szMmGo_le r (szMm s x) (by omega); omega
theorem szMms_le {l : List Mm} {left : Int} (h : 0 ≤ left) : -1 ≤ szMms l left ∧ szMms l left ≤ left := by
  unfold szMms
  split
  · omega
  · have := szMmGo_le l (left - l.length) (by omega); omega
theorem szMms_len {l : List Mm} {left : Int} (h0 : 0 ≤ left) (h : 0 ≤ szMms l left) : (l.length : Int) ≤ left := by
  unfold szMms at h
  split at h
  · omega
  · omega
theorem szMmGo_mem : ∀ {l : List Mm} {x : Int}, 0 ≤ x → 0 ≤ szMmGo l x → ∀ v ∈ l, ∃ y, 0 ≤ y ∧ y ≤ x ∧ 0 ≤ szMm v y
  | s :: r, x, h0, h, v, hv => by
    simp only [szMmGo] at h
    have hle := szMm_le (v := s) h0
    split at h
    · omega
    · rename_i hn
      rcases List.mem_cons.1 hv with rfl | hv
      · exact ⟨x, h0, by omega, by omega⟩
      · obtain ⟨y, h1, h2, h3⟩ := szMmGo_mem (by omega) h v hv
        exact ⟨y, h1, by omega, h3⟩
theorem szMms_mem {l : List Mm} {left : Int} (h0 : 0 ≤ left) (h : 0 ≤ szMms l left) : ∀ v ∈ l, ∃ y, 0 ≤ y ∧ y ≤ left ∧ 0 ≤ szMm v y := by
  unfold szMms at h
  split at h
  · omega
  · intro v hv
    obtain ⟨y, h1, h2, h3⟩ := szMmGo_mem (by omega) h v hv
    exact ⟨y, h1, by omega, h3⟩
theorem szMmGo_drop {l : List Mm} {i : Nat} {s : Mm} (h : l[i]? = some s) (x : Int) : szMmGo (l.drop i) x = if szMm s x < 0 then -1 else szMmGo (l.drop (i + 1)) (szMm s x) := by
  obtain ⟨hi, rfl⟩ := List.getElem?_eq_some_iff.1 h
  rw [List.drop_eq_getElem_cons hi]
  rfl
end
section
attribute [local go_sem] tsz9 tsz22 tsz34 tfld34 tel22 tel32 toNat_cast und9 zero34 tsz69 tfld69 tel42 mX mmX
theorem szTMms (ss : List Mm) (left : Int) (hl : 0 ≤ left) (hl2 : left ≤ 1000000) : Fun Try.prog 19 [.d (.of mmX ss), .d (.int .i64 left)] (.d (.int .i64 (szMms ss left))) := by
  refine Fun.of ?_ rfl rfl
  refine Spec.of (fn := Try.f19) Try.func19 rfl (by kernel_rfl) (rs := [.tmp 4]) rfl 1 (by simp [Try.f19]) rfl (by simp) ?_
  intro hreal
  rintro ⟨P, T, L0, w0, ι0, C0, U0⟩ hP hT hU
  subst hP hT
  refine st ?_
  have hlen : ss.length ≤ 9223372036854775807 := by simpa using D.real_len (X.real_d (hreal (.d (.of mmX ss)) (by simp)) : D.real (.sl (ss.map mmX)))
  all_goals first
  | fail_if_success with_reducible refine atR 0 ?_
  | (
    refine rg 0 [] [some 4] 1 ?_
    all_goals refine qP ?_
    all_goals refine qE ?_)
  all_goals first
  | fail_if_success with_reducible refine atR 1 ?_
  | (
    refine rg 1 [] [some 6, some 7, some 8, some 9, some 1] 5 ?_
    all_goals iterate 3 refine qP ?_
    all_goals (
      refine qL_cons ?_
      intro R hR
      refine sm ?_
      rw [wrap64 (by omega) (by omega)]
      all_goals (refine hR _ ?_; clear hR R))
    all_goals refine qP ?_
    all_goals refine qE ?_)
  all_goals first
  | fail_if_success with_reducible refine atR 2 ?_
  | (
    refine rg 2 [] [some 10, some 11] 2 ?_
    all_goals iterate 2 refine qP ?_
    all_goals refine qE ?_)
  all_goals first
  | fail_if_success with_reducible refine atC 11 ?_
  | (
    refine cn 11 ?_ ?_ <;> intro hc11 <;> try (cases hc11; done)
    all_goals refine st ?_)
  all_goals first
  | fail_if_success with_reducible refine atR 3 ?_
  | (
    refine rg 3 [] [some 4] 1 ?_
    all_goals refine qP ?_
    all_goals refine qE ?_)
  all_goals first
  | fail_if_success with_reducible refine atR 4 ?_
  | (
    refine rg 4 [] [some 5] 1 ?_
    all_goals refine qP ?_
    all_goals refine qE ?_)
  all_goals first
  | fail_if_success with_reducible refine AW.rounds (α := (Nat × Int)) ?_ ?_ ?_ ?_ ?_ ?_ ?_ ?_
  | (
    refine AW.rounds (α := (Nat × Int)) (fun p => p.1 ≤ ss.length ∧ 0 ≤ p.2 ∧ p.2 ≤ 1000000 ∧ szMms ss left = szMmGo (ss.drop p.1) p.2) (fun p => St.by [(0, .d (.of mmX ss)), (1, .d (.int .i64 p.2)), (5, .d (.int .i64 p.1))] []) (fun p => ss.length - p.1) 1 (0, left - ss.length) ?_ ?_ ?_
    · refine ⟨by simp, by simp only; omega, by simp only; omega, ?_⟩
      simp only [List.drop_zero, szMms]
      rw [if_neg (by omega)]
    · refine Vw.to [] _ _ (vU hU) ?_ ?_ (by simp [tauL])
      · refine vd (vd (vw_d ?_ (trivial)))
        · first
          | exact cl2
          | (
            refine sm2 ?_
            all_goals (
             rfl))
      · trivial
    · intro p hJ
      refine st ?_
      obtain ⟨hJ1, hJ2, hJ3, hJ4⟩ := hJ
      all_goals first
      | fail_if_success with_reducible refine atR 5 ?_
      | (
        refine rg 5 [] [some 12, some 13, some 14, some 15] 4 ?_
        all_goals iterate 4 refine qP ?_
        all_goals refine qE ?_)
      all_goals first
      | fail_if_success with_reducible refine atC 15 ?_
      | (
        refine cn 15 ?_ ?_ <;> intro hc15 <;> try (cases hc15; done)
        all_goals refine st ?_)
      all_goals first
      | fail_if_success with_reducible refine atR 7 ?_
      | (
        refine rg 7 [] [some 18, some 19, some 20, some 21, some 22, some 23, some 1] 7 ?_
        all_goals iterate 2 refine qP ?_
        all_goals (
          refine qL_cons ?_
          intro R hR
          refine sm ?_
          refine ⟨⟨by omega, by omega⟩, ?_⟩
          intro x3 hx3
          have q3 := szMm_le (v := x3) (left := p.2) (by omega)
          all_goals (refine hR _ ?_; clear hR R))
        all_goals iterate 2 refine qP ?_
        all_goals (
          refine qL_cons ?_
          intro R hR
          refine sm ?_
          refine call_fun (szTMm x3 p.2 (by omega) (by omega)) [] ?_ (.inl rfl) ?_
          · exact ⟨.inl rfl, ⟨.inl rfl, trivial⟩⟩
          refine sm ?_
          all_goals (refine hR _ ?_; clear hR R))
        all_goals refine qP ?_
        all_goals refine qE ?_)
      all_goals first
      | fail_if_success with_reducible refine atR 8 ?_
      | (
        refine rg 8 [] [some 24, some 25] 2 ?_
        all_goals iterate 2 refine qP ?_
        all_goals refine qE ?_)
      all_goals first
      | fail_if_success with_reducible refine atC 25 ?_
      | (
        refine cn 25 ?_ ?_ <;> intro hc25 <;> try (cases hc25; done)
        all_goals refine st ?_)
      all_goals first
      | fail_if_success with_reducible refine atR 9 ?_
      | (
        refine rg 9 [] [some 4] 1 ?_
        all_goals refine qP ?_
        all_goals refine qE ?_)
      all_goals first
      | fail_if_success with_reducible refine atR 6 ?_
      | (
        refine rg 6 [] [some 16, some 17, some 5] 3 ?_
        all_goals refine qP ?_
        all_goals (
          refine qL_cons ?_
          intro R hR
          refine sm ?_
          rw [wrap64 (by omega) (by omega)]
          all_goals (refine hR _ ?_; clear hR R))
        all_goals refine qP ?_
        all_goals refine qE ?_)
      all_goals first
      | fail_if_success with_reducible refine ⟨(p.1 + 1, szMm x3 p.2), ?_, ?_, ?_⟩
      | (
        refine ⟨(p.1 + 1, szMm x3 p.2), ?_, ?_, ?_⟩
        · refine ⟨by simp only; omega, by simp only; omega, by simp only; omega, ?_⟩
          rw [hJ4, szMmGo_drop hx3, if_neg (by omega)]
        · simp only; omega
        · refine Vw.to [] _ _ (vU hU) ?_ ?_ (by simp [tauL])
          · refine vd (vd (vw_d ?_ (trivial)))
            · first
              | exact cl2
              | (
                refine sm2 ?_
                all_goals (
                 congr 1))
          · trivial)
      all_goals first
      | fail_if_success with_reducible refine atR 10 ?_
      | (
        refine rg 10 [] [some 26, some 4] 2 ?_
        all_goals iterate 2 refine qP ?_
        all_goals refine qE ?_)
      all_goals first
      | fail_if_success with_reducible refine ret_fun (t := 4) ?_ ?_
      | (
        refine ret_fun (t := 4) ?_ (fun _ => rfl)
        first
        | exact cl
        | (
          try refine sm ?_
          all_goals (
           first
             | (congr 2; done)
             | (congr 2; rw [hJ4, szMmGo_drop hx3, if_pos (by omega)]; done)
             | (congr 2; rw [hJ4, List.drop_of_length_le (by omega)]; rfl)))))
  all_goals first
  | fail_if_success with_reducible refine ret_fun (t := 4) ?_ ?_
  | (
    refine ret_fun (t := 4) ?_ (fun _ => rfl)
    first
    | exact cl
    | (
      try refine sm ?_
      all_goals (
       first
         | (congr 2; unfold szMms; rw [if_pos (by omega)]; done))))

end
end Go.Proofs.Ytmlbdicaeefomaa
