import Derived.Test.YtepifllifhikiaaDoorFwF
set_option linter.unusedSimpArgs false
set_option linter.unusedVariables false
namespace Go.Fw

/-- What an append to a slice of this type asks of the table. -/
def elemT (P : Program) (t e : TypeId) (w bytes : Nat) (z : Value) : Prop :=
  ∃ i : TypeInfo, P.underlying t = some (.slice e) ∧ P.info? e = some i ∧ i.zero = some z ∧ i.size = w ∧ i.bytes = bytes ∧ z.cells.size = w ∧ 0 < w

theorem RC.one_cells {s : St} {cs : List Value} {d : D} (h : RC s cs d) : ∀ u ∈ cs, u.oneCell' = true := by
  induction h with
  | val v h => intro u hu; simp at hu; subst hu; exact h
  | nilsl w cap a ha => intro u hu; simp at hu; subst hu; rfl
  | sl w b off cap ds cs hb hg hcap hw hc h ih => intro u hu; simp at hu; subst hu; rfl
  | ptr b off cs d hb hg hc h ih => intro u hu; simp at hu; subst hu; rfl
  | ifc t v cs d hv h ih => intro u hu; simp at hu; subst hu; rfl
  | agg css ds hl h ih =>
    intro u hu
    obtain ⟨c, hc, huc⟩ := List.mem_flatten.1 hu
    obtain ⟨i, hi, rfl⟩ := List.getElem_of_mem hc
    exact ih i hi (by omega) u huc

theorem RCs.one_cells {s : St} {w : Nat} {xs : List Value} {ds : List D} (h : RCs s w xs ds) : ∀ u ∈ xs, u.oneCell' = true := by
  intro u hu
  obtain ⟨j, hj, rfl⟩ := List.getElem_of_mem hu
  have hw : 0 < w := by
    rcases Nat.eq_zero_or_pos w with e | e
    · rw [h.1, e] at hj; simp at hj
    · exact e
  have hi : j / w < ds.length := by rw [Nat.div_lt_iff_lt_mul hw, ← h.1]; exact hj
  refine (h.2 (j / w) hi).one_cells _ ?_
  have hjm := Nat.div_add_mod j w
  have hlt := Nat.mod_lt j hw
  have e : xs[j] = ((xs.drop (j / w * w)).take w)[j % w]'(by simp; rw [Nat.mul_comm] at hjm; omega) := by
    simp only [List.getElem_take, List.getElem_drop]
    congr 1
    rw [Nat.mul_comm] at hjm
    omega
  rw [e]
  exact List.getElem_mem _

/-- The state behind a law that ends in 'grownBy'. -/
theorem own_grown {s : St} {l : Lab} {e w m : Nat} {v v' : Value} {ds es : List D} {xs ys : List Value} {w' : World} (h0 : l.o ≠ 0) (h1 : l.o ≤ s.n + 1)
    (hlab : ∀ g, v.ownBlock = some g → s.g g = l) (hr : RCs s w (xs ++ ys) (ds ++ es))
    (hown : w'.ownsRow 0 e w v' (ds ++ es).length (xs ++ ys)) (hg : s.w.grownBy w' v.ownBlock) (hsame : ∀ g, v'.ownBlock = some g → g < s.n → v.ownBlock = some g) :
    Step (KC l.o l.c) s (s.to w' l h1) ∧ Own (s.to w' l h1) l e w v' (ds ++ es) := by
  have st : Step (KC l.o l.c) s (s.to w' l h1) := by
    refine St.to_step hg.os hg.tape hg.output hg.size (fun b hb hk => hg.block b hb ?_) (fun c hc => h0 hc.1.symm)
    intro e
    exact hk (by rw [hlab b e.symm]; exact ⟨rfl, rfl⟩)
  refine ⟨st, h0, Nat.le_trans h1 (Nat.add_le_add_right st.size 1), xs ++ ys, hown, ?_, hr.up st⟩
  intro g hgb
  by_cases hlt : g < s.n
  · rw [St.to_g_old hlt]; exact hlab g (hsame g hgb hlt)
  · exact St.to_g_new (Nat.not_lt.1 hlt)

section
variable {P : Program} {n : Nat} {Df : Md} {ops : Array Oper} {Q : Post} {rest : List Oper} {ρ : Env} {s : St}
variable {d : Nat} {ty : TypeId} {pos : String} {aft : Array Edge} {x y : Operand} {tx tyy : TypeId}

/-! append -/
theorem own_same {w w' : World} {e size n m : Nat} {v v' : Value} {xs ys : List Value} (ho : w.ownsRow 0 e size v n xs) (ho' : w'.ownsRow 0 e size v' m ys) (hg : w.grownBy w' v.ownBlock)
    (hrun : ∀ g, v'.ownBlock = some g → g < w.heap.size → v.ownBlock = some g) : True := trivial

/-- The law of append, with where the new row lies. -/
theorem run_append_law {P : Program} {s : St} {l lx : Lab} {t ty e w bytes : Nat} {z : Value} {v vx : Value} {ds es : List D} (hT : elemT P t e w bytes z) (h : Own s l e w v ds) (hx : SL s lx vx w es)
    (hsz : (ds.length + es.length) * bytes ≤ 140737488355328) (hmx : ds.length + es.length ≤ 9223372036854775807) :
    ∃ v' w' hl, (Builtin.append_ #[t, t] ty #[v, vx]).run P s.w = .ok v' w' ∧ Step (KC l.o l.c) s (s.to w' l hl) ∧ Own (s.to w' l hl) l e w v' (ds ++ es) := by
  obtain ⟨i, h1, h2, h3, h4, h5, h6, h7⟩ := hT
  obtain ⟨h0, hle, xs, ho, hg, hr⟩ := h
  have hmx' : ds.length + es.length ≤ maxLen := by unfold maxLen; omega
  rcases hx.cells with ⟨rfl, a, cap, rfl, ha⟩ | ⟨b, off, cap, ys, rfl, hys, hc⟩
  · -- nothing is appended
    have hst : Step (KC l.o l.c) s (s.to s.w l hle) := St.to_step rfl rfl rfl (Nat.le_refl _) (fun _ _ _ => rfl) (fun c hc => h0 hc.1.symm)
    refine ⟨v, s.w, hle, ?_, hst, ?_⟩
    · rcases ho.2 with ⟨rfl, hn⟩ | ⟨g, cap', cur, rfl, hb, hgg, hle', hcm, hcs, ht⟩
      · cases a <;> simp [Builtin.append_, run_underlying h1, sizeOf, typeInfo, h2, Builtin.lenOf, hn, Builtin.firstCells, loadCells, loadCellsFrom]
      · cases a <;> simp [Builtin.append_, run_underlying h1, sizeOf, typeInfo, h2, Builtin.lenOf, hle', Builtin.firstCells, loadCells, loadCellsFrom, storeCells]
    · rw [List.append_nil]
      refine ⟨h0, Nat.le_trans hle (Nat.add_le_add_right hst.size 1), xs, ho, ?_, hr.up hst⟩
      intro g hgb
      rw [St.to_g_old (ownBlock_lt ho hgb)]
      exact hg g hgb
  · have hyl : ys.length = es.length * w := hys.1
    have hone := hys.one_cells
    have hr' : RCs s w (xs ++ ys) (ds ++ es) := hr.append hys
    have hlen : (ds ++ es).length = ds.length + es.length := List.length_append
    -- the three arms
    rcases ho.2 with ⟨hv, hn⟩ | ⟨g, cap', cur, hv, hb, hgg, hle', hcm, hcs, ht⟩
    · obtain ⟨v', w', hrun, how, hgr, hnil⟩ := run_append_own (P := P) s.w s.n t ty e i z w bytes h1 h2 h3 h4 h5 h6 h7 v ds.length xs ⟨ho.1, .inl ⟨hv, hn⟩⟩ ⟨b, off, none⟩ es.length cap ys hyl hc hone hmx' (by simpa using hsz) (Nat.le_refl _)
      have how0 : w'.ownsRow 0 e w v' (ds ++ es).length (xs ++ ys) := by
        rw [hlen]
        refine ⟨how.1, ?_⟩
        rcases how.2 with h | ⟨g, c, cu, e1, e2, r⟩
        · exact .inl h
        · exact .inr ⟨g, c, cu, e1, Nat.zero_le _, r⟩
      have := own_grown (l := l) (v := v) (m := 0) h0 hle hg hr' how0 hgr (fun g hgb hlt => by
        have := how.lt g hgb
        omega)
      exact ⟨v', w', hle, hrun, this.1, this.2⟩
    · by_cases hroom : ds.length + es.length ≤ cap'
      · obtain ⟨v', w', hrun, how, hgr, hnil⟩ := run_append_own (P := P) s.w 0 t ty e i z w bytes h1 h2 h3 h4 h5 h6 h7 v ds.length xs ⟨ho.1, .inr ⟨g, cap', cur, hv, hb, hgg, hle', hcm, hcs, ht⟩⟩ ⟨b, off, none⟩ es.length cap ys hyl hc hone hmx' (by simpa using hsz) (Nat.zero_le _)
        have hrun2 := run_append_room (P := P) s.w t ty e i h1 h2 g ds.length cap' cur hgg ⟨b, off, none⟩ es.length cap ys (by rw [h4]; exact hyl) hc hone hroom (by rw [h4, hyl, ← Nat.add_mul, hcs]; exact Nat.mul_le_mul_right _ hroom)
        rw [hv, hrun2] at hrun
        injection hrun with e1 e2
        have := own_grown (l := l) (v := v) (m := 0) h0 hle hg hr' (by rw [hlen]; exact how) hgr (fun g' hgb hlt => by
          rw [← e1] at hgb
          simp [Value.ownBlock] at hgb
          rw [hv, ← hgb]; rfl)
        exact ⟨v', w', hle, by rw [hv, hrun2, e1, e2], this.1, this.2⟩
      · have holds : ∀ j u, xs[j]? = some u → s.w.cell? ((⟨g, 0, none⟩ : Addr).add j) = some u := ho.cells (g := g) (by rw [hv]; rfl)
        obtain ⟨v', w', hrun, how, hgr⟩ := run_append_arg_grows (P := P) s.w t ty e i z w bytes h1 h2 h3 h4 h5 h6 h7 ⟨g, 0, none⟩ ds.length cap' xs (by simpa using ho.1) holds ⟨b, off, none⟩ es.length cap ys hyl hc (by omega) hmx' (by simpa using hsz)
        have how0 : w'.ownsRow 0 e w v' (ds ++ es).length (xs ++ ys) := by
          rw [hlen]
          refine ⟨how.1, ?_⟩
          rcases how.2 with h | ⟨g, c, cu, e1, e2, r⟩
          · exact .inl h
          · exact .inr ⟨g, c, cu, e1, Nat.zero_le _, r⟩
        have hgr' : s.w.grownBy w' v.ownBlock := ⟨hgr.os, hgr.tape, hgr.output, hgr.size, fun k hk _ => hgr.block k hk (by simp)⟩
        have := own_grown (l := l) (v := v) (m := 0) h0 hle hg hr' how0 hgr' (fun g' hgb hlt => by
          have h1 := how.lt g' hgb
          have h2 : s.n = s.w.heap.size := rfl
          omega)
        exact ⟨v', w', hle, by rw [hv]; exact hrun, this.1, this.2⟩

theorem k_append {l lx : Lab} {t e w bytes : Nat} {z : Value} {v vx : Value} {ds es : List D} (hT : elemT P t e w bytes z) (hx : ev ρ x = some v) (hy : ev ρ y = some vx) (h : Own s l e w v ds) (h' : SL s lx vx w es)
    (hsz : (ds.length + es.length) * bytes ≤ 140737488355328) (hmx : ds.length + es.length ≤ 9223372036854775807) (hd : Nat.blt d n = true)
    (hK : ∀ s' v', Step (KC l.o l.c) s s' → Own s' l e w v' (ds ++ es) → KL P n Df ops Q rest ((d, v') :: ρ) s'.w) :
    KL P n Df ops Q (⟨some d, .call { callee := .builtin .append, args := [x, y].toArray, argTypes := [t, t].toArray }, ty, pos, aft, none⟩ :: rest) ρ s.w := by
  obtain ⟨v', w', hl, hrun, st, ho⟩ := run_append_law (ty := ty) hT h h' hsz hmx
  refine .val rfl rfl hd (v := v') (w' := w') (fun η ha => ?_) (hK (s.to w' l hl) v' st ho)
  simp [execOp, resolve, invoke, builtin, ha.ev hx, ha.ev hy, hrun]

theorem RCs.bytes {s : St} (m : List UInt8) : RCs s 1 (m.map fun b => Value.int .u8 b.toNat) (Bs m) := by
  refine ⟨by simp, fun i hi => ?_⟩
  have hi' : i < m.length := by simpa using hi
  have e : (((m.map fun b => Value.int .u8 b.toNat)).drop (i * 1)).take 1 = [Value.int .u8 m[i].toNat] := by
    rw [Nat.mul_one, List.drop_eq_getElem_cons (by simpa using hi')]
    simp
  rw [e, List.getElem_map]
  exact .val _ rfl

/-- append(v, s...) of a string. -/
theorem k_append_str {l : Lab} {t u e bytes : Nat} {z : Value} {v : Value} {ds : List D} {m : List UInt8} (hT : elemT P t e 1 bytes z) (hz : z = .int .u8 0) (hb1 : bytes = 1) (hu : P.underlying u = some .string) (hx : ev ρ x = some v) (hy : ev ρ y = some (S m)) (h : Own s l e 1 v ds)
    (hsz : ds.length + m.length ≤ 140737488355328) (hd : Nat.blt d n = true)
    (hK : ∀ s' v', Step (KC l.o l.c) s s' → Own s' l e 1 v' (ds ++ Bs m) → KL P n Df ops Q rest ((d, v') :: ρ) s'.w) :
    KL P n Df ops Q (⟨some d, .call { callee := .builtin .append, args := [x, y].toArray, argTypes := [t, u].toArray }, ty, pos, aft, none⟩ :: rest) ρ s.w := by
  subst hz hb1
  obtain ⟨i, h1, h2, h3, h4, h5, h6, h7⟩ := hT
  obtain ⟨h0, hle, xs, ho, hg, hr⟩ := h
  have hmx : ds.length + (ByteArray.mk m.toArray).size ≤ maxLen := by rw [S_size]; unfold maxLen; omega
  have hcells : Lib.strCells ⟨m.toArray⟩ = m.map fun b => Value.int .u8 b.toNat := by simp [Lib.strCells]
  have hr' : RCs s 1 (xs ++ Lib.strCells ⟨m.toArray⟩) (ds ++ Bs m) := by rw [hcells]; exact hr.append (RCs.bytes m)
  have hlen : (ds ++ Bs m).length = ds.length + (ByteArray.mk m.toArray).size := by rw [S_size]; simp
  have base : ∀ (base : Nat), base ≤ s.n → s.w.ownsRow base e 1 v ds.length xs → (∀ v' w', (Builtin.append_ #[t, u] ty #[v, S m]).run P s.w = .ok v' w' → w'.ownsRow base e 1 v' (ds.length + (ByteArray.mk m.toArray).size) (xs ++ Lib.strCells ⟨m.toArray⟩) → s.w.grownBy w' v.ownBlock → ∀ g, v'.ownBlock = some g → g < s.n → v.ownBlock = some g) →
      KL P n Df ops Q (⟨some d, .call { callee := .builtin .append, args := [x, y].toArray, argTypes := [t, u].toArray }, ty, pos, aft, none⟩ :: rest) ρ s.w := by
    intro base hbase ho' hsame
    obtain ⟨v', w', hrun, how, hgr, hnil⟩ := Lib.run_append_own_string (P := P) s.w base t u ty e i h1 hu h2 h3 h4 h5 v ds.length xs ho' ⟨m.toArray⟩ hmx (by rw [S_size]; exact hsz) hbase
    have how0 : w'.ownsRow 0 e 1 v' (ds ++ Bs m).length (xs ++ Lib.strCells ⟨m.toArray⟩) := by
      rw [hlen]
      refine ⟨how.1, ?_⟩
      rcases how.2 with h | ⟨g, c, cu, e1, e2, r⟩
      · exact .inl h
      · exact .inr ⟨g, c, cu, e1, Nat.zero_le _, r⟩
    have := own_grown (l := l) (v := v) (m := 0) h0 hle hg hr' how0 hgr (hsame v' w' hrun how hgr)
    refine .val rfl rfl hd (v := v') (w' := w') (fun η ha => ?_) (hK (s.to w' l hle) v' this.1 this.2)
    simp [execOp, resolve, invoke, builtin, ha.ev hx, ha.ev hy, hrun]
  rcases ho.2 with ⟨hv, hn⟩ | ⟨g, cap', cur, hv, hb, hgg, hle', hcm, hcs, ht⟩
  · exact base s.n (Nat.le_refl _) ⟨ho.1, .inl ⟨hv, hn⟩⟩ (fun v' w' _ how _ g hgb hlt => by have := how.lt g hgb; omega)
  · by_cases hroom : ds.length + (ByteArray.mk m.toArray).size ≤ cap'
    · have hrun2 := Lib.run_append_room_string (P := P) s.w t u ty e i h1 hu h2 h4 g ds.length cap' cur hgg ⟨m.toArray⟩ hroom (by rw [hcs]; omega)
      refine base 0 (Nat.zero_le _) ho (fun v' w' hrun _ _ g' hgb _ => ?_)
      rw [hv, hrun2] at hrun
      injection hrun with e1 e2
      rw [← e1] at hgb
      simp [Value.ownBlock] at hgb
      rw [hv, ← hgb]; rfl
    · have holds : ∀ j u, xs[j]? = some u → s.w.cell? ((⟨g, 0, none⟩ : Addr).add j) = some u := ho.cells (g := g) (by rw [hv]; rfl)
      have hxl : xs.length = ds.length := by simpa using ho.1
      have hrun2 := Lib.run_append_grow_string (P := P) s.w t u ty e i (.int .u8 0) h1 hu h2 h3 ⟨g, 0, none⟩ ds.length cap' xs (by rw [h4]; simpa using hxl) holds ⟨m.toArray⟩ (by omega) (by rw [S_size]; omega) (by rw [h5]; exact growslice_fits (by omega) (by rw [S_size]; omega))
      refine base 0 (Nat.zero_le _) ho (fun v' w' hrun _ _ g' hgb hlt => ?_)
      rw [hv, hrun2] at hrun
      injection hrun with e1 e2
      rw [← e1] at hgb
      simp [Value.ownBlock] at hgb
      have : s.n = s.w.heap.size := rfl
      omega

end
end Go.Fw
