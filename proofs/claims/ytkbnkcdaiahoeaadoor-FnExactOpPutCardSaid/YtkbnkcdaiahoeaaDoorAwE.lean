/- That 'aop' tells what an operation of the model does: tests, loads, addresses, parts. No condition. -/
import Derived.Test.YtkbnkcdaiahoeaaDoorAwD
namespace Go.Proofs.YtkbnkcdaiahoeaaDoor
open Go Go.RowKit
set_option linter.unusedVariables false
set_option linter.unusedSimpArgs false
section
variable {P : Program} {ι : Nat → Gh} {U : Nat → Prop} {L : Lim} {w : World} {C : Caps} {m : Nat} {K : X → Del → Prop} {e : Operand → X} {ρ : Operand → Value} {wr av : Nat → Prop}

theorem run_binOp_eql_other {t : TypeId} {u v : Value} (h : ∀ k n, u ≠ .int k n) (h2 : ∀ s, u ≠ .string s) (h3 : ∀ k b, u ≠ .float k b) (h4 : ∀ k a b, u ≠ .complex k a b) : (binOp .eql t u v).run P w = ((Op.equal t u v).run P w).andThen fun b w' => .ok (.bool b) w' := by
  cases u <;> first | exact absurd rfl (h _ _) | exact absurd rfl (h2 _) | exact absurd rfl (h3 _ _) | exact absurd rfl (h4 _ _ _) | simp [binOp]
theorem run_binOp_neq_other {t : TypeId} {u v : Value} (h : ∀ k n, u ≠ .int k n) (h2 : ∀ s, u ≠ .string s) (h3 : ∀ k b, u ≠ .float k b) (h4 : ∀ k a b, u ≠ .complex k a b) : (binOp .neq t u v).run P w = ((Op.equal t u v).run P w).andThen fun b w' => .ok (.bool (!b)) w' := by
  cases u <;> first | exact absurd rfl (h _ _) | exact absurd rfl (h2 _) | exact absurd rfl (h3 _ _) | exact absurd rfl (h4 _ _ _) | simp [binOp]

theorem bin_sound {op : BinOp} {t : TypeId} {xo yo : Operand} {x y : X} {u v : Value} {K' : D → Prop} (hx : Rel ι U L w x u) (hy : Rel ι U L w y v) (h : aBin P op t x y K') :
    ∃ d r, (do eqGuard op t xo yo u v; binOp op t u v : Sem Value).run P w = .ok r w ∧ Den L w d r ∧ K' d := by
  have other : ∀ {b : Bool}, (∀ cs, u ≠ .agg cs) → u ≠ .nilIface → (∀ k n, u ≠ .int k n) → (∀ s, u ≠ .string s) → (∀ k b, u ≠ .float k b) → (∀ k a b, u ≠ .complex k a b) → (Op.equal t u v).run P w = .ok b w →
      (op = .eql → K' (.bool b)) → (op = .neq → K' (.bool !b)) → (op = .eql ∨ op = .neq) → ∃ d r, (do eqGuard op t xo yo u v; binOp op t u v : Sem Value).run P w = .ok r w ∧ Den L w d r ∧ K' d := by
    intro b h0 h1 h2 h3 h4 h5 he hk1 hk2 hor
    rcases hor with rfl | rfl
    · exact ⟨_, _, by simp only [Sem.run_bind, run_eqGuard_plain h0 h1, Result.andThen_ok, run_binOp_eql_other h2 h3 h4 h5, he], .bool b, hk1 rfl⟩
    · exact ⟨_, _, by simp only [Sem.run_bind, run_eqGuard_plain h0 h1, Result.andThen_ok, run_binOp_neq_other h2 h3 h4 h5, he], .bool _, hk2 rfl⟩
  unfold aBin at h
  split at h
  · obtain ⟨rfl, h⟩ := h
    obtain ⟨rfl, f1⟩ := hx.int_inv
    obtain ⟨rfl, f2⟩ := hy.int_inv
    obtain ⟨d, r, h1, h2, h3⟩ := int_sound (P := P) (L := L) (w := w) (t := t) f1 f2 h
    exact ⟨d, r, by simp only [Sem.run_bind, run_eqGuard_plain (a := .int _ _) (fun _ => Value.noConfusion) Value.noConfusion, Result.andThen_ok, h1], h2, h3⟩
  · obtain ⟨rfl, f1⟩ := hx.str_inv
    obtain ⟨rfl, f2⟩ := hy.str_inv
    obtain ⟨d, r, h1, h2, h3⟩ := str_sound (P := P) (L := L) (w := w) (t := t) h
    exact ⟨d, r, by simp only [Sem.run_bind, run_eqGuard_plain (a := .string _) (fun _ => Value.noConfusion) Value.noConfusion, Result.andThen_ok, h1], h2, h3⟩
  · rename_i a b
    obtain ⟨hu, h⟩ := h
    obtain rfl := hx.bool_inv
    obtain rfl := hy.bool_inv
    have he := run_equal_of (P := P) (w := w) (fun d => run_equalIn_bool (P := P) (w := w) d hu a b)
    refine other (by simp) (by simp) (by simp) (by simp) (by simp) (by simp) he ?_ ?_ ?_ <;> cases op <;> simp [aBool] at h ⊢ <;> exact h
  · rename_i es
    obtain ⟨ht, h⟩ := h
    obtain ⟨a, c, rfl, hc, hB, h0, us, hs, hd⟩ := hx.sl_inv
    obtain rfl := hy.nil_inv
    obtain ⟨⟨el, k, by_⟩, ht⟩ := Option.isSome_iff_exists.1 ht
    obtain ⟨i, hu, -⟩ := telem_inv (w := w) ht
    have hne : a.isNone = true → es = [] := by
      intro hn
      by_cases he : es = []
      · exact he
      · obtain ⟨b, o, k, rfl, -⟩ := hs he; simp at hn
    have he := run_equal_of (P := P) (w := w) (fun d => run_equalIn_sl_nil (P := P) (w := w) d hu a es.length c)
    refine other (by simp) (by simp) (by simp) (by simp) (by simp) (by simp) he (fun ho => by subst ho; exact h _ hne) (fun ho => by subst ho; exact h _ (fun hb => hne (by simpa using hb))) (by cases op <;> simp [aNil] at h ⊢)
  · rename_i es
    obtain ⟨ht, h⟩ := h
    obtain ⟨a, c, rfl, hc, hB, h0, us, hs, hd⟩ := hy.sl_inv
    obtain rfl := hx.nil_inv
    obtain ⟨⟨el, k, by_⟩, ht⟩ := Option.isSome_iff_exists.1 ht
    obtain ⟨i, hu, -⟩ := telem_inv (w := w) ht
    have hne : a.isNone = true → es = [] := by
      intro hn
      by_cases he : es = []
      · exact he
      · obtain ⟨b, o, k, rfl, -⟩ := hs he; simp at hn
    have he := run_equal_of (P := P) (w := w) (fun d => run_equalIn_nil_sl (P := P) (w := w) d hu a es.length c)
    refine other (by simp) (by simp) (by simp) (by simp) (by simp) (by simp) he (fun ho => by subst ho; exact h _ hne) (fun ho => by subst ho; exact h _ (fun hb => hne (by simpa using hb))) (by cases op <;> simp [aNil] at h ⊢)
  · obtain ⟨ht, h⟩ := h
    obtain rfl := hx.nil_inv
    obtain rfl := hy.nil_inv
    obtain ⟨⟨el, k, by_⟩, ht⟩ := Option.isSome_iff_exists.1 ht
    obtain ⟨i, hu, -⟩ := telem_inv (w := w) ht
    have he := run_equal_of (P := P) (w := w) (fun d => run_equalIn_sl_nil (P := P) (w := w) d hu none 0 0)
    refine other (by simp) (by simp) (by simp) (by simp) (by simp) (by simp) he ?_ ?_ ?_ <;> cases op <;> simp at h ⊢ <;> exact h
  · rename_i n1 k1 a1 len1
    obtain ⟨ht, h⟩ := h
    obtain ⟨⟨el, k, by_⟩, ht⟩ := Option.isSome_iff_exists.1 ht
    obtain ⟨i, hu, -⟩ := telem_inv (w := w) ht
    obtain rfl := hy.nil_inv
    have : ∃ a c, u = .slice a len1 c ∧ (a.isNone = true → len1 = 0) := by
      cases hx with
      | vec hn hnl hle ho => exact ⟨_, _, rfl, by simp⟩
      | vec0 hn hnl => exact ⟨_, _, rfl, fun _ => rfl⟩
    obtain ⟨a, c, rfl, hne⟩ := this
    have he := run_equal_of (P := P) (w := w) (fun d => run_equalIn_sl_nil (P := P) (w := w) d hu a len1 c)
    refine other (by simp) (by simp) (by simp) (by simp) (by simp) (by simp) he (fun ho => by subst ho; exact h _ hne) (fun ho => by subst ho; exact h _ (fun hb => hne (by simpa using hb))) (by cases op <;> simp at h ⊢)
  · rename_i cs ds
    split at h
    · rename_i ks hp
      cases hx with
      | ag us hl hr =>
        cases hy with
        | ag vs hl' hr' =>
          unfold tplain at hp
          split at hp
          · rename_i fs hu
            split at hp
            · rename_i hg
              simp only [Bool.and_eq_true, Bool.not_eq_true', List.all_eq_true] at hg
              obtain ⟨⟨hg1, hg2⟩, hg3⟩ := hg
              simp only [Option.some.injEq] at hp
              subst hp
              have hfo : P.fieldsOf t = fs := by simp [Program.fieldsOf, hu]
              have hE : ∀ b, eqL (fs.toList.map fun f => tkind P f.type) cs ds = some b → (Op.equal t (.agg us.toArray) (.agg vs.toArray)).run P w = .ok b w := by
                intro b hb
                refine run_equal_of' ?_
                intro d
                rw [run_equalIn_struct w (d + 1) t _ _ (by rw [hfo]; exact hu) hg2, hfo]
                refine run_eqFields_plain d us vs fs.toList 0 cs ds b ?_ (by omega) (by omega) (fun j hj => by simpa using hr j hj) (fun j hj => by simpa using hr' j hj) hb
                intro j f hj
                have := hg3 (f, j) (by rw [List.mem_zipIdx_iff_getElem?]; simpa using hj)
                simpa using this
              have hG : (eqGuard op t xo yo (.agg us.toArray) (.agg vs.toArray)).run P w = .ok () w := run_eqGuard_agg w op t xo yo _ _ hg1
              split at h
              · rename_i b hb
                exact ⟨_, _, by simp only [Sem.run_bind, hG, Result.andThen_ok, run_binOp_eql_other (u := .agg _) (by simp) (by simp) (by simp) (by simp), hE _ hb], .bool b, h⟩
              · rename_i b hb
                exact ⟨_, _, by simp only [Sem.run_bind, hG, Result.andThen_ok, run_binOp_neq_other (u := .agg _) (by simp) (by simp) (by simp) (by simp), hE _ hb], .bool _, h⟩
              · exact h.elim
            · simp at hp
          · simp at hp
    · exact h.elim
  · exact h.elim

/-! ### Loads -/
theorem run_loadVar_cells {t : TypeId} {g : Bool} {n : Nat} (ht : tsz P t = some (g, n)) {b o : Nat} {us : List Value} (hs : ∀ j, j < us.length → w.cell? ⟨b, o + j, none⟩ = some (us.getD j undef))
    (hg : if g then us.length = n else 0 < us.length) : (loadVar t ⟨b, o, none⟩).run P w = .ok (if g then .agg us.toArray else us.getD 0 undef) w := by
  obtain ⟨i, d, hi, hd, hsz, ha, hz⟩ := tsz_inv (w := w) ht
  have add : ∀ j, (⟨b, o, none⟩ : Addr).add j = ⟨b, o + j, none⟩ := by
    intro j; unfold Addr.add; split <;> simp_all
  cases g with
  | true =>
    simp only [if_true] at hg ⊢
    subst hg
    have := run_loadCells_list (P := P) w ⟨b, o, none⟩ us (fun j v hj => by
      obtain ⟨hjl, rfl⟩ := List.getElem?_eq_some_iff.1 hj
      rw [add]; have := hs j hjl; rw [List.getD_eq_getElem?_getD, List.getElem?_eq_getElem hjl] at this; exact this)
    simp [loadVar, ha, hz, this]
  | false =>
    simp only [Bool.false_eq_true, if_false] at hg ⊢
    have := hs 0 hg
    simp only [Nat.add_zero] at this
    simp [loadVar, ha, this]
theorem takeD_sound {t : TypeId} {g : Bool} {n : Nat} (ht : tsz P t = some (g, n)) {cs : List D} {b o : Nat} {us : Nat → Value} (hs : ∀ j, j < cs.length → w.cell? ⟨b, o + j, none⟩ = some (us j)) (hd : ∀ j (hj : j < cs.length), Den L w (cs[j]'hj) (us j))
    {K' : X → Prop} (h : aTake g n cs K') : ∃ x v, (loadVar t ⟨b, o, none⟩).run P w = .ok v w ∧ Rel ι U L w x v ∧ K' x := by
  unfold aTake at h
  cases g with
  | true =>
    obtain ⟨hn, h⟩ := h
    refine ⟨_, _, run_loadVar_cells ht (us := (List.range n).map us) (fun j hj => ?_) (by simp), ?_, h⟩
    · simp at hj; simp [hj, (hs j (by omega))]
    · simp only [if_true]
      refine .ag _ (by simp; omega) (fun i hi => ?_)
      simp at hi
      have hi2 : i < n ∧ i < cs.length := by omega
      simp [hi2.1]
      exact .d (hd i hi2.2)
  | false =>
    cases cs with
    | nil => exact h.elim
    | cons c cs =>
      refine ⟨_, _, run_loadVar_cells ht (us := [us 0]) (fun j hj => ?_) (by simp), ?_, h⟩
      · simp at hj; subst hj; simpa using (hs 0 (by simp))
      · simp; exact .d (hd 0 (by simp))
theorem take_sound {t : TypeId} {g : Bool} {n : Nat} (ht : tsz P t = some (g, n)) {cs : List D} {b o : Nat} {us : Nat → Value} (hs : ∀ j, j < cs.length → Stab L w b (o + j) (us j)) (hd : ∀ j (hj : j < cs.length), Den L w (cs[j]'hj) (us j))
    {K' : X → Prop} (h : aTake g n cs K') : ∃ x v, (loadVar t ⟨b, o, none⟩).run P w = .ok v w ∧ Rel ι U L w x v ∧ K' x := takeD_sound ht (fun j hj => (hs j hj).2) hd h
theorem takeX_sound {t : TypeId} {g : Bool} {n : Nat} (ht : tsz P t = some (g, n)) {cs : List X} {b o : Nat} {us : List Value} (hl : cs.length ≤ us.length) (hs : ∀ j, j < cs.length → w.cell? ⟨b, o + j, none⟩ = some (us.getD j undef))
    (hd : ∀ j (hj : j < cs.length), Rel ι U L w (cs[j]'hj) (us.getD j undef)) {K' : X → Prop} (h : aTakeX g n cs K') : ∃ x v, (loadVar t ⟨b, o, none⟩).run P w = .ok v w ∧ Rel ι U L w x v ∧ K' x := by
  unfold aTakeX at h
  cases g with
  | true =>
    obtain ⟨hn, h⟩ := h
    refine ⟨_, _, run_loadVar_cells ht (us := us.take n) (fun j hj => ?_) (by simp; omega), ?_, h⟩
    · simp at hj
      rw [hs j (by omega)]
      simp [List.getElem?_take, show j < n by omega]
    · simp only [if_true]
      refine .ag _ (by simp; omega) (fun i hi => ?_)
      simp at hi
      have hi2 : i < n ∧ i < cs.length := by omega
      have := hd i hi2.2
      simp [List.getElem?_take, hi2.1] at this ⊢
      exact this
  | false =>
    cases cs with
    | nil => exact h.elim
    | cons c cs =>
      refine ⟨_, _, run_loadVar_cells ht (us := [us.getD 0 undef]) (fun j hj => ?_) (by simp), ?_, h⟩
      · simp at hj; subst hj; simpa using hs 0 (by simp)
      · have := hd 0 (by simp); simpa using this

theorem load_sound (hW : WR ι U L w C) {t : TypeId} {g : Bool} {n : Nat} (ht : tsz P t = some (g, n)) {a : X} {u : Value} (hr : Rel ι U L w a u) {K' : X → Prop} (h : aLoad av C g n a K') :
    ∃ x v, (Instr.loadAt t u).run P w = .ok v w ∧ Rel ι U L w x v ∧ K' x := by
  unfold aLoad at h
  have hl : ∀ (ad : Addr), u = .pointer (some ad) → (Instr.loadAt t u).run P w = (loadVar t ad).run P w := by
    intro ad h; subst h; simp [Instr.loadAt, Instr.sureAddr]
  split at h
  · cases hr with
    | ptr b o us hs hd =>
      obtain ⟨x, v, h1, h2, h3⟩ := take_sound (ι := ι) (U := U) ht hs hd h
      exact ⟨x, v, by rw [hl _ rfl]; exact h1, h2, h3⟩
  · rename_i nm off
    obtain ⟨-, h⟩ := h
    split at h
    · rename_i ty cs hc
      cases hr with
      | bx hn =>
        obtain ⟨h0, us, h1, h2, h3⟩ := hW.ok nm _ hc
        have hA : ∀ j, j < (cs.drop off).length → w.cell? ⟨(ι nm).b, off + j, none⟩ = some ((us.drop off).getD j undef) := by
          intro j hj
          simp at hj
          simp [World.cell?, h1, List.getElem?_eq_getElem (show off + j < us.length by omega)]
        have hB : ∀ j (hj : j < (cs.drop off).length), Rel ι U L w ((cs.drop off)[j]'hj) ((us.drop off).getD j undef) := by
          intro j hj
          simp at hj
          have := h3 (off + j) (by omega)
          simpa [List.getD_eq_getElem?_getD] using this
        obtain ⟨x, v, g1, g2, g3⟩ := takeX_sound (P := P) (ι := ι) (U := U) (L := L) (w := w) ht (cs := cs.drop off) (b := (ι nm).b) (o := off) (us := us.drop off) (by simp [h2]) hA hB h
        exact ⟨x, v, by rw [hl _ rfl]; exact g1, g2, g3⟩
    · exact h.elim
  · rename_i nm k i off
    obtain ⟨-, h⟩ := h
    split at h
    · rename_i ty k' es hc
      obtain ⟨rfl, hi, h⟩ := h
      cases hr with
      | ve hn =>
        rcases hW.ok nm _ hc with ⟨-, rfl⟩ | ⟨h0, us, h1, h2, h3, h4, h5⟩
        · exact absurd hi (by simp)
        have h := h _ (List.getElem?_eq_getElem hi)
        obtain ⟨hk, h6⟩ := h5 i hi
        have hb : i * k + k ≤ (ι nm).cap * k := by
          have : (i + 1) * k ≤ (ι nm).cap * k := Nat.mul_le_mul_right k (by omega)
          rw [Nat.add_mul] at this; omega
        have hA : ∀ j, j < ((es[i]'hi).drop off).length → w.cell? ⟨(ι nm).b, i * k + off + j, none⟩ = some (us.getD (i * k + off + j) undef) := by
          intro j hj
          simp at hj
          simp [World.cell?, h1, List.getElem?_eq_getElem (show i * k + off + j < us.length by omega)]
        have hB : ∀ j (hj : j < ((es[i]'hi).drop off).length), Den L w (((es[i]'hi).drop off)[j]'hj) (us.getD (i * k + off + j) undef) := by
          intro j hj
          simp at hj
          have := h6 (off + j) (by omega)
          simpa [List.getD_eq_getElem?_getD, Nat.add_assoc] using this
        obtain ⟨x, v, g1, g2, g3⟩ := takeD_sound (P := P) (ι := ι) (U := U) (L := L) (w := w) ht (cs := (es[i]'hi).drop off) (b := (ι nm).b) (o := i * k + off) (us := fun j => us.getD (i * k + off + j) undef) hA hB h
        exact ⟨x, v, by rw [hl _ rfl]; exact g1, g2, g3⟩
    · exact h.elim
  · exact h.elim
end
end Go.Proofs.YtkbnkcdaiahoeaaDoor
