import Derived.Test.YtepifllifhikiaaDoorFwJ
set_option linter.unusedSimpArgs false
set_option linter.unusedVariables false
namespace Go.Fw

section
variable {P : Program} {n : Nat} {Df : Md} {ops : Array Oper} {Q : Post} {rest : List Oper} {ρ : Env} {s : St} {w0 : World}
variable {d : Nat} {ty : TypeId} {pos : String} {aft : Array Edge} {x y : Operand} {tx tyy : TypeId}

/-! strings and bytes -/
theorem SL.bytes {s : St} {l : Lab} {v : Value} {m : List UInt8} (h : SL s l v 1 (Bs m)) :
    (m = [] ∧ ∃ a cap, v = .slice a 0 cap) ∨ ∃ b off cap, v = .slice (some ⟨b, off, none⟩) m.length cap ∧ ∀ i, i < m.length → s.w.cell? ⟨b, off + i, none⟩ = some (.int .u8 (m.getD i 0).toNat) := by
  rcases h with ⟨e, a, cap, rfl, _⟩ | ⟨b, off, cap, cs, rfl, hb, hg, hcap, hw, hc, hr⟩
  · exact .inl ⟨by simpa using e, a, cap, rfl⟩
  · refine .inr ⟨b, off, cap, by simp, fun i hi => ?_⟩
    have hi' : i < (Bs m).length := by simpa using hi
    have h1 := hc i hi' 0 (by omega)
    have h2 := (hr i hi')
    have e : (Bs m)[i] = .val (.int .u8 (m.getD i 0).toNat) := by simp [List.getD, hi]
    rw [e] at h2
    have h3 := h2.val_inv
    rw [Nat.mul_one, Nat.add_zero, h3] at h1
    simpa using h1

theorem k_bts {l : Lab} {e : TypeId} {v : Value} {m : List UInt8} (hT : P.underlying tx = some (.slice e)) (he : P.underlying e = some (.int .u8)) (hS : P.underlying tyy = some .string) (hx : ev ρ x = some v) (h : SL s l v 1 (Bs m)) (hd : Nat.blt d n = true)
    (hK : KL P n Df ops Q rest ((d, S m) :: ρ) s.w) : KL P n Df ops Q (⟨some d, .convert tx tyy x, ty, pos, aft, none⟩ :: rest) ρ s.w := by
  refine .val rfl rfl hd (fun η ha => ?_) hK
  rcases h.bytes with ⟨rfl, a, cap, rfl⟩ | ⟨b, off, cap, rfl, hc⟩
  · cases a with
    | none =>
      simp [execOp, ha.ev hx, run_convert_bytes_nil s.w tx e hT he 0 cap tyy hS]
      rfl
    | some a =>
      have := run_convert_bytes_string s.w tx tyy e (some a) 0 cap hT he hS
      simp [execOp, ha.ev hx, this, Conv.bytesToString, loadCells, loadCellsFrom]
      rfl
  · have hlen : (m.map fun b => (b.toNat : Int)).length = m.length := by simp
    have := run_convert_bytes_arg (P := P) s.w tx e hT he b off m.length cap (m.map fun b => (b.toNat : Int)) hlen (fun i hi => by
      rw [hc i hi]
      simp [List.getD, hi]) tyy hS
    have hs : strOfNums (m.map fun b => (b.toNat : Int)) = ⟨m.toArray⟩ := by
      simp only [strOfNums, List.map_map]
      congr 2
      have : ((fun n : Int => UInt8.ofNat n.toNat) ∘ fun b : UInt8 => (b.toNat : Int)) = id := by
        funext b; simp
      rw [this]; simp
    rw [hs] at this
    simp [execOp, ha.ev hx, this]

theorem k_stb {e : TypeId} {m : List UInt8} {u : TypeDesc} (hT : P.underlying tx = some u) (hD : P.underlying tyy = some (.slice e)) (he : P.underlying e = some (.int .u8)) (hx : ev ρ x = some (S m)) (hd : Nat.blt d n = true)
    (hK : ∀ s' v, Step K0 s s' → R s' v (.sl 1 (Bs m)) → KL P n Df ops Q rest ((d, v) :: ρ) s'.w) :
    KL P n Df ops Q (⟨some d, .convert tx tyy x, ty, pos, aft, none⟩ :: rest) ρ s.w := by
  have hl0 : L0.o ≤ s.n + 1 := Nat.zero_le _
  have st : Step K0 s (s.to (Lib.bytesWorld s.w e ⟨m.toArray⟩) L0 hl0) :=
    St.to_step rfl rfl rfl (by rw [Lib.bytesWorld_size]; exact Nat.le_succ _) (fun b hb _ => Lib.bytesWorld_at_old _ _ _ _ hb) (fun _ h => h)
  refine .val rfl rfl hd (v := .slice (some ⟨s.n, 0, none⟩) m.length (grownCap s.w m.length 0 e)) (w' := Lib.bytesWorld s.w e ⟨m.toArray⟩) (fun η ha => ?_) (hK (s.to _ L0 hl0) _ st (R.of_SL ?_))
  · have := Lib.run_convert_string_bytes (P := P) s.w tx tyy e ⟨m.toArray⟩ hT hD he
    rw [S_size] at this
    simp [execOp, ha.ev hx, this]
  · have hge := grownCap_ge s.w m.length 0 e
    refine .inr ⟨s.n, 0, grownCap s.w m.length 0 e, fun i => [.int .u8 (m.getD i 0).toNat], by simp, ?_, St.to_g_new (Nat.le_refl _), by simpa using hge, fun i hi => rfl, ?_, ?_⟩
    · show s.n < (Lib.bytesWorld s.w e ⟨m.toArray⟩).heap.size
      rw [Lib.bytesWorld_size]; exact Nat.lt_succ_self _
    · intro i hi j hj
      have hi' : i < m.length := by simpa using hi
      have hj0 : j = 0 := by omega
      subst hj0
      have := Lib.bytesWorld_cell s.w e ⟨m.toArray⟩ i (by rw [S_size]; exact hi')
      simp only [Nat.zero_add, Nat.mul_one, Nat.add_zero]
      exact this.trans (by simp)
    · intro i hi
      have hi' : i < m.length := by simpa using hi
      have e : (Bs m)[i] = .val (.int .u8 (m.getD i 0).toNat) := by simp [List.getD, hi']
      rw [e]
      exact .val _ rfl

/-! make -/
theorem splice_eq (C vs : List Value) (M w N o : Nat) (h1 : M + w ≤ N) (h2 : N ≤ C.length) (h3 : o + vs.length ≤ w) :
    (C.take N).take M ++ ((((C.take N).drop M).take w).take o ++ vs ++ (((C.take N).drop M).take w).drop (o + vs.length)) ++ (C.take N).drop (M + w) = (C.take (M + o) ++ vs ++ C.drop (M + o + vs.length)).take N := by
  obtain ⟨A, C1, rfl, hA⟩ : ∃ A C1, C = A ++ C1 ∧ A.length = M := ⟨C.take M, C.drop M, (List.take_append_drop M C).symm, by simp; omega⟩
  subst hA
  obtain ⟨B, C2, rfl, hB⟩ : ∃ A C, C1 = A ++ C ∧ A.length = o := ⟨C1.take o, C1.drop o, (List.take_append_drop o C1).symm, by simp at h2 ⊢; omega⟩
  subst hB
  obtain ⟨V, C3, rfl, hV⟩ : ∃ A C, C2 = A ++ C ∧ A.length = vs.length := ⟨C2.take vs.length, C2.drop vs.length, (List.take_append_drop _ C2).symm, by simp at h2 ⊢; omega⟩
  obtain ⟨E, C4, rfl, hE⟩ : ∃ A C, C3 = A ++ C ∧ A.length = w - (B.length + vs.length) := ⟨C3.take (w - (B.length + vs.length)), C3.drop _, (List.take_append_drop _ C3).symm, by simp at h2 ⊢; omega⟩
  obtain ⟨F, C5, rfl, hF⟩ : ∃ X C, C4 = X ++ C ∧ X.length = N - (A.length + w) := ⟨C4.take (N - (A.length + w)), C4.drop _, (List.take_append_drop _ C4).symm, by simp at h2 ⊢; omega⟩
  have e1 : (A ++ (B ++ (V ++ (E ++ (F ++ C5))))).take N = A ++ (B ++ (V ++ (E ++ F))) := by
    rw [show A ++ (B ++ (V ++ (E ++ (F ++ C5)))) = (A ++ (B ++ (V ++ (E ++ F)))) ++ C5 by simp]
    exact List.take_left' (by simp; omega)
  rw [e1]
  have e2 : (A ++ (B ++ (V ++ (E ++ F)))).take A.length = A := List.take_left
  have e3 : (A ++ (B ++ (V ++ (E ++ F)))).drop A.length = B ++ (V ++ (E ++ F)) := List.drop_left
  have e4 : (B ++ (V ++ (E ++ F))).take w = B ++ (V ++ E) := by
    rw [show B ++ (V ++ (E ++ F)) = (B ++ (V ++ E)) ++ F by simp]
    exact List.take_left' (by simp; omega)
  have e5 : (B ++ (V ++ E)).take B.length = B := List.take_left
  have e6 : (B ++ (V ++ E)).drop (B.length + vs.length) = E := by
    rw [show B ++ (V ++ E) = (B ++ V) ++ E by simp]
    exact List.drop_left' (by simp; omega)
  have e7 : (A ++ (B ++ (V ++ (E ++ F)))).drop (A.length + w) = F := by
    rw [show A ++ (B ++ (V ++ (E ++ F))) = (A ++ (B ++ (V ++ E))) ++ F by simp]
    exact List.drop_left' (by simp; omega)
  have e8 : (A ++ (B ++ (V ++ (E ++ (F ++ C5))))).take (A.length + B.length) = A ++ B := by
    rw [show A ++ (B ++ (V ++ (E ++ (F ++ C5)))) = (A ++ B) ++ (V ++ (E ++ (F ++ C5))) by simp]
    exact List.take_left' (by simp)
  have e9 : (A ++ (B ++ (V ++ (E ++ (F ++ C5))))).drop (A.length + B.length + vs.length) = E ++ (F ++ C5) := by
    rw [show A ++ (B ++ (V ++ (E ++ (F ++ C5)))) = (A ++ (B ++ V)) ++ (E ++ (F ++ C5)) by simp]
    exact List.drop_left' (by simp; omega)
  rw [e2, e3, e4, e5, e6, e7, e8, e9]
  rw [show A ++ B ++ vs ++ (E ++ (F ++ C5)) = (A ++ (B ++ vs ++ E) ++ F) ++ C5 by simp]
  exact (List.take_left' (by simp; omega)).symm

theorem RCs.madeCells {s : St} {z : Value} {dz : D} {w c : Nat} (hz : RC s z.cells.toList dz) (hw : dz.wd = w) (h0 : 0 < w) : RCs s w (madeCells z.cells (c * w)).toList (List.replicate c dz) := by
  have hlen : z.cells.size = w := by have := hz.len; rw [hw] at this; simpa using this
  refine ⟨by simp [Go.madeCells], fun i hi => ?_⟩
  have hi' : i < c := by simpa using hi
  have hle : i * w + w ≤ c * w := by
    calc i * w + w = (i + 1) * w := by rw [Nat.add_mul, Nat.one_mul]
      _ ≤ c * w := Nat.mul_le_mul_right _ hi'
  have e : ((Go.madeCells z.cells (c * w)).toList.drop (i * w)).take w = z.cells.toList := by
    apply List.ext_getElem
    · simp [Go.madeCells, hlen]; omega
    · intro j h1 h2
      have hj : j < w := by simpa [hlen] using h2
      simp only [Go.madeCells, List.getElem_take, List.getElem_drop, Array.toList_map, List.getElem_map, Array.getElem_toList, Array.getElem_range]
      have hm : (i * w + j) % z.cells.size = j := by rw [hlen, Nat.mul_comm, Nat.mul_add_mod, Nat.mod_eq_of_lt hj]
      simp only [hm]
      exact getElem!_pos z.cells j (by omega)
  rw [e, List.getElem_replicate]
  exact hz

theorem k_make {t e w bytes : Nat} {z : Value} {dz : D} {k k' : IntKind} {c : Nat} (hT : elemT P t e w bytes z) (hx : ev ρ x = some (.int k c)) (hy : ev ρ y = some (.int k' c)) (hz : RC s z.cells.toList dz) (hw : dz.wd = w)
    (hb : bytes * c ≤ 281474976710656) (hc : c ≤ 9223372036854775807) (hd : Nat.blt d n = true)
    (hK : ∀ s' v b, Step K0 s s' → s.n ≤ b → Own s' ⟨b + 1, 0⟩ e w v (List.replicate c dz) → KL P n Df ops Q rest ((d, v) :: ρ) s'.w) :
    KL P n Df ops Q (⟨some d, .makeSlice t x y, ty, pos, aft, none⟩ :: rest) ρ s.w := by
  obtain ⟨i, h1, h2, h3, h4, h5, h6, h7⟩ := hT
  have st : Step K0 s (s.to (s.w.alloc (.cells (madeCells z.cells (c * w)) e)) ⟨s.n + 1, 0⟩ (Nat.le_refl _)) := St.to_alloc
  have hcs : RCs s w (madeCells z.cells (c * w)).toList (List.replicate c dz) := RCs.madeCells hz hw h7
  have hb' : (i.bytes : Int) * (c : Int) ≤ 281474976710656 := by
    have h : ((bytes * c : Nat) : Int) ≤ 281474976710656 := by omega
    rw [h5]
    rwa [Int.natCast_mul] at h
  refine .val rfl rfl hd (v := .slice (some ⟨s.n, 0, none⟩) c c) (w' := s.w.alloc (.cells (madeCells z.cells (c * w)) e)) (fun η ha => ?_)
    (hK (s.to _ ⟨s.n + 1, 0⟩ (Nat.le_refl _)) _ s.n st (Nat.le_refl _) ⟨by simp, ?_, _, ⟨hcs.1, .inr ⟨s.n, c, _, by simp, Nat.zero_le _, heap_alloc_new _ _, by simp, by unfold maxLen; omega, by simp [size_madeCells], ?_⟩⟩, ?_, hcs.up st⟩)
  · have := run_make (P := P) s.w t e i z h1 h2 h3 k k' c c (by omega) (Int.le_refl _) hb' (by omega)
    simp only [Int.toNat_natCast, h4] at this
    simp [execOp, ha.ev hx, ha.ev hy, this]
  · show s.n + 1 ≤ (s.w.alloc _).heap.size + 1
    simp
  · rw [List.take_of_length_le (by rw [hcs.1]; simp)]
  · intro g hg
    simp [Value.ownBlock] at hg
    exact St.to_g_new (by omega)

/-! writing into a slice that is owned -/
theorem Own.heap {s : St} {l : Lab} {e w : Nat} {v : Value} {ds : List D} (h : Own s l e w v ds) {g len cap : Nat} (hv : v = .slice (some ⟨g, 0, none⟩) len cap) (hlen : 0 < ds.length) :
    ∃ cur : Array Value, s.w.heap[g]? = some (.cells cur e (0, 0)) ∧ s.g g = l ∧ cur.size = cap * w ∧ ds.length ≤ cap ∧ cap ≤ maxLen ∧ RCs s w (cur.toList.take (ds.length * w)) ds ∧ len = ds.length := by
  obtain ⟨h0, h1, xs, ho, hg, hr⟩ := h
  rcases ho.2 with ⟨rfl, hn⟩ | ⟨g', cap', cur, rfl, hb, hgg, hle', hcm, hcs, ht⟩
  · omega
  · injection hv with e1 e2 e3
    injection e1 with e1
    injection e1 with e1
    subst e1 e2 e3
    exact ⟨cur, hgg, hg g' rfl, hcs, hle', hcm, by rw [ht]; exact hr, rfl⟩

theorem RCs.set {s : St} {w : Nat} {xs ys : List Value} {ds : List D} (h : RCs s w xs ds) {i : Nat} (hi : i < ds.length) {dd : D} (hy : RC s ys dd) (hl : ys.length = w) :
    RCs s w (xs.take (i * w) ++ ys ++ xs.drop (i * w + w)) (ds.set i dd) := by
  have hle : i * w + w ≤ xs.length := by
    rw [h.1]; calc i * w + w = (i + 1) * w := by rw [Nat.add_mul, Nat.one_mul]
      _ ≤ ds.length * w := Nat.mul_le_mul_right _ hi
  have hl1 : (xs.take (i * w)).length = i * w := by rw [List.length_take, Nat.min_eq_left (by omega)]
  refine ⟨?_, fun j hj => ?_⟩
  · have := h.1
    simp only [List.length_append, List.length_drop, List.length_set, hl1, hl]
    omega
  · have hj' : j < ds.length := by simpa using hj
    by_cases hji : j = i
    · subst hji
      rw [List.getElem_set_self]
      have e : ((xs.take (j * w) ++ ys ++ xs.drop (j * w + w)).drop (j * w)).take w = ys := by
        rw [List.append_assoc, List.drop_append_of_le_length (by omega), List.drop_eq_nil_of_le (by omega), List.nil_append, List.take_append_of_le_length (by omega), List.take_of_length_le (by omega)]
      rw [e]
      exact hy
    · rw [List.getElem_set_ne (fun e => hji e.symm)]
      have h2 := h.2 j hj'
      have e : ((xs.take (i * w) ++ ys ++ xs.drop (i * w + w)).drop (j * w)).take w = (xs.drop (j * w)).take w := by
        rcases Nat.lt_or_gt_of_ne hji with hlt | hgt
        · have hm : j * w + w ≤ i * w := by
            calc j * w + w = (j + 1) * w := by rw [Nat.add_mul, Nat.one_mul]
              _ ≤ i * w := Nat.mul_le_mul_right _ hlt
          rw [List.append_assoc, List.drop_append_of_le_length (by omega), List.take_append_of_le_length (by simp; omega), List.drop_take, List.take_take]
          congr 1
          omega
        · have hm : i * w + w ≤ j * w := by
            calc i * w + w = (i + 1) * w := by rw [Nat.add_mul, Nat.one_mul]
              _ ≤ j * w := Nat.mul_le_mul_right _ hgt
          rw [List.drop_append, List.drop_eq_nil_of_le (by simp [hl]; omega), List.nil_append, List.drop_drop]
          congr 2
          simp only [List.length_append, hl1, hl]
          omega
      rw [e]
      exact h2

/-- A store over some cells of an element: the rest of the element stays. -/
theorem Own.store {s : St} {l : Lab} {e w : Nat} {v : Value} {ds : List D} (h : Own s l e w v ds) {g len cap i o : Nat} (hv : v = .slice (some ⟨g, 0, none⟩) len cap) (hi : i < ds.length) {vs : List Value} {dd : D} (ho : o + vs.length ≤ w)
    (hd : ∀ cs : List Value, cs.length = w → RC s cs ds[i] → RC s (cs.take o ++ vs ++ cs.drop (o + vs.length)) dd) :
    Step (KC l.o l.c) s (s.re (s.w.setCells g (i * w + o) vs)) ∧ Own (s.re (s.w.setCells g (i * w + o) vs)) l e w v (ds.set i dd) := by
  have h0 := h.1
  have hle := h.2.1
  obtain ⟨cur, hgg, hgl, hsz, hlc, hcm, hr, hlen⟩ := h.heap hv (by omega)
  have hwi : i * w + w ≤ ds.length * w := by
    calc i * w + w = (i + 1) * w := by rw [Nat.add_mul, Nat.one_mul]
      _ ≤ ds.length * w := Nat.mul_le_mul_right _ hi
  have hcw : ds.length * w ≤ cap * w := Nat.mul_le_mul_right _ hlc
  have hcl : cur.toList.length = cap * w := by rw [← hsz]; exact Array.length_toList
  obtain ⟨r1, r2, r3, r4⟩ := setCells_rest g vs (i * w + o) s.w
  have hset := heap_setCells g vs (i * w + o) s.w cur.toList e (0, 0) (by simpa using hgg) (by rw [hcl]; omega)
  have st : Step (KC l.o l.c) s (s.re (s.w.setCells g (i * w + o) vs)) := by
    refine ⟨r1, r2, r3, Nat.le_of_eq r4.symm, fun b' hb' hk => ⟨heap_setCells_ne g b' ?_ vs _ s.w, rfl⟩, fun c hc => h0 hc.1.symm⟩
    rintro rfl
    exact hk (by rw [hgl]; exact ⟨rfl, rfl⟩)
  refine ⟨st, h0, by show l.o ≤ (s.w.setCells _ _ _).heap.size + 1; rw [r4]; exact hle, _, ⟨?_, .inr ⟨g, cap, _, ?_, Nat.zero_le _, hset, by rw [List.length_set]; exact hlc, hcm, ?_, rfl⟩⟩, ?_, ?_⟩
  · have : (ds.set i dd).length = ds.length := List.length_set
    simp only [List.length_take, List.toList_toArray, List.length_append, List.length_drop, Array.length_toList, hsz, this]
    omega
  · rw [hv, hlen, List.length_set]
  · simp only [List.size_toArray, List.length_take, List.length_append, List.length_drop, Array.length_toList, hsz]
    omega
  · intro g' hg'
    rw [hv] at hg'
    simp [Value.ownBlock] at hg'
    subst hg'
    exact hgl
  · have hlt : (cur.toList.take (ds.length * w)).length = ds.length * w := by rw [List.length_take, hcl, Nat.min_eq_left hcw]
    have hcell : (((cur.toList.take (ds.length * w)).drop (i * w)).take w).length = w := by
      rw [List.length_take, List.length_drop, hlt]; omega
    have hnew := hd _ hcell (hr.2 i hi)
    have := (hr.set hi hnew (by simp only [List.length_append, List.length_take, List.length_drop, hcell]; omega)).up st
    have e2 : (cur.toList.take (ds.length * w)).take (i * w) ++ ((((cur.toList.take (ds.length * w)).drop (i * w)).take w).take o ++ vs ++ (((cur.toList.take (ds.length * w)).drop (i * w)).take w).drop (o + vs.length)) ++ (cur.toList.take (ds.length * w)).drop (i * w + w) =
        (cur.toList.take (i * w + o) ++ vs ++ cur.toList.drop (i * w + o + vs.length)).take ((ds.set i dd).length * w) := by
      rw [List.length_set]
      exact splice_eq cur.toList vs (i * w) w (ds.length * w) o hwi (by rw [hcl]; exact hcw) ho
    rw [e2] at this
    simpa using this

theorem k_store_elt {l : Lab} {e w i : Nat} {v q u : Value} {ds : List D} {dd : D} (hT : sizeT P tx w = true) (hx : ev ρ x = some q) (hy : ev ρ y = some u) (h : Own s l e w v ds) (he : Elt w v i q) (hi : i < ds.length) (hu : R s u dd) (hw : dd.wd = w)
    (hK : ∀ s', Step (KC l.o l.c) s s' → Own s' l e w v (ds.set i dd) → KL P n Df ops Q rest ρ s'.w) :
    KL P n Df ops Q (⟨none, .store tx x y, ty, pos, aft, none⟩ :: rest) ρ s.w := by
  obtain ⟨g, len, cap, hv, rfl⟩ := he
  have hrc := hu.rc
  have hul : u.cells.toList.length = w := by rw [hrc.len, hw]
  obtain ⟨cur, hgg, hgl, hsz, hlc, hcm, hr, hlen⟩ := h.heap hv (by omega)
  have hwi : i * w + w ≤ cap * w := by
    calc i * w + w = (i + 1) * w := by rw [Nat.add_mul, Nat.one_mul]
      _ ≤ cap * w := Nat.mul_le_mul_right _ (by omega)
  have hst := run_storeCells_cells (P := P) g (i * w) u.cells.toList 0 s.w (fun j hj => by
      simp [World.cell?, hgg]; omega) (fun j hj => by simp [World.frozen?, hgg]) (fun u hu => hrc.one_cells u hu)
  simp only [Nat.add_zero] at hst
  have hs := h.store (o := 0) hv hi (vs := u.cells.toList) (dd := dd) (by omega) (fun cs hcs _ => by
    rw [List.take_zero, List.nil_append, List.drop_eq_nil_of_le (by omega), List.append_nil]; exact hrc)
  refine .eff rfl rfl (fun η ha => ?_) (hK _ hs.1 hs.2)
  have hsz' : u.cells.size = w := by simpa using hul
  simp [execOp, ha.ev hx, ha.ev hy, Instr.storeAt, Instr.sureAddr, storeVar, run_sizeOf hT, hsz', hst]
  rfl

end
end Go.Fw
