import Derived.Test.YtkdicklkghgdpaaFwU
import Derived.Shelf.SlSortCmp.NoneTotal
set_option linter.unusedSimpArgs false
set_option linter.unusedVariables false
namespace Go.Fw
open Go.Sort Go.Shelf Go.Proofs
/-! slices.SortFunc at structs whose cells are all that they are -/
theorem Own.putAll {s : St} {l : Lab} {e : TypeId} {w : Nat} {v : Value} {ds : List D} (h : Own s l e w v ds) {g len cap : Nat} (hv : v = .slice (some ⟨g, 0, none⟩) len cap) {xs : List Value} {es : List D} (hr : RCs s w xs es) (hle : es.length = ds.length) (hpos : 0 < ds.length) :
    Step (KC l.o l.c) s (s.re (s.w.setCells g 0 xs)) ∧ Own (s.re (s.w.setCells g 0 xs)) l e w v es := by
  have h0 := h.1
  have hl1 := h.2.1
  obtain ⟨cur, hgg, hgl, hsz, hlc, hcm, hrr, hlen⟩ := h.heap hv hpos
  have hcl : cur.toList.length = cap * w := by rw [Array.length_toList, hsz]
  have hxl : xs.length = ds.length * w := by rw [hr.1, hle]
  have hmul : ds.length * w ≤ cap * w := Nat.mul_le_mul_right _ hlc
  obtain ⟨r1, r2, r3, r4⟩ := setCells_rest g xs 0 s.w
  have hset := heap_setCells g xs 0 s.w cur.toList e (0, 0) (by simpa using hgg) (by rw [hcl, hxl]; omega)
  have st : Step (KC l.o l.c) s (s.re (s.w.setCells g 0 xs)) := by
    refine ⟨r1, r2, r3, Nat.le_of_eq r4.symm, fun b' hb' hk => ⟨heap_setCells_ne g b' ?_ xs _ s.w, rfl⟩, fun c hc => h0 hc.1.symm⟩
    rintro rfl
    exact hk (by rw [hgl]; exact ⟨rfl, rfl⟩)
  refine ⟨st, h0, by show l.o ≤ (s.w.setCells _ _ _).heap.size + 1; rw [r4]; exact hl1, _, ⟨?_, .inr ⟨g, cap, _, ?_, Nat.zero_le _, hset, by rw [hle]; exact hlc, hcm, ?_, rfl⟩⟩, ?_, ?_⟩
  · rw [hle]
    simp only [List.length_take, List.toList_toArray, List.length_append, List.length_drop, Array.length_toList, hsz, hxl]
    omega
  · rw [hv, hlen, hle]
  · simp only [List.size_toArray, List.length_take, List.length_append, List.length_drop, Array.length_toList, hsz, hxl]
    omega
  · intro g' hg'
    rw [hv] at hg'
    simp [Value.ownBlock] at hg'
    subst hg'
    exact hgl
  · have h3 := hr.up st
    have e2 : xs = (cur.toList.take 0 ++ xs ++ cur.toList.drop (0 + xs.length)).take (es.length * w) := by
      rw [List.take_zero, List.nil_append, List.take_append_of_le_length (by rw [hr.1]; exact Nat.le_refl _), List.take_of_length_le (by rw [hr.1]; exact Nat.le_refl _)]
    refine (congrArg (fun z => RCs (s.re (s.w.setCells g 0 xs)) w z es) (e2.trans ?_)).mp h3
    simp

section
variable {α : Type} [Inhabited α] {enc : α → List Value} {k : Nat}
theorem flat_chunk (hk : ∀ x, (enc x).length = k) (d : Array α) (i : Nat) (hi : i < d.size) : ((flatK enc k d).toList.drop (i * k)).take k = enc d[i]! := by
  have hm : i * k + k ≤ d.size * k := by
    have := Nat.mul_le_mul_right k (show i + 1 ≤ d.size from hi); rwa [Nat.add_mul, Nat.one_mul] at this
  refine List.ext_getElem ?_ ?_
  · rw [List.length_take, List.length_drop, Array.length_toList, size_flatK, hk]; omega
  · intro j h1 h2
    have hj : j < k := by rw [hk] at h2; exact h2
    rw [List.getElem_take, List.getElem_drop, Array.getElem_toList]
    have hlt : i * k + j < d.size * k := by omega
    have e1 : (i * k + j) / k = i := (blk_iff k i _ (by omega)).1 ⟨by omega, by omega⟩
    have e2 : (i * k + j) % k = j := by rw [Nat.mod_eq_sub_div_mul, e1]; omega
    have := get_flatK enc k d (i * k + j) hlt
    rw [e1, e2, getElem!_pos _ _ (by rw [size_flatK]; exact hlt), getElem!_pos (enc d[i]!) j h2] at this
    exact this
theorem setMany_all (F G : Array Value) (h : F.size = G.size) : setMany F 0 G.toList = G := by
  refine ext_get! (by rw [size_setMany, h]) (fun t ht => ?_)
  rw [size_setMany] at ht
  rw [get_setMany _ _ _ _ ht, if_pos ⟨Nat.zero_le _, by rw [Nat.zero_add, Array.length_toList, ← h]; exact ht⟩]
  have ht' : t < G.size := by rw [← h]; exact ht
  rw [Nat.sub_zero, getElem!_pos G.toList t (by simpa using ht'), getElem!_pos G t ht', Array.getElem_toList]
end
theorem sorted_list {α : Type} [Inhabited α] {lt : α → α → Bool} {d : Array α} (h : SortedIn lt 0 d.size d) : d.toList.Pairwise (fun a b => lt b a = false) := by
  rw [List.pairwise_iff_getElem]
  intro i j hi hj hij
  have := h i j (Nat.zero_le _) hij (by simpa using hj)
  rw [getElem!_pos d i (by simpa using hi), getElem!_pos d j (by simpa using hj)] at this
  simpa using this
theorem perm_list {α : Type} [Inhabited α] {d d' : Array α} (h : PermIn 0 d.size d d') : d'.toList.Perm d.toList := by
  obtain ⟨h1, _, h3⟩ := h
  have e : d.extract 0 d.size = d := by simp
  have e' : d'.extract 0 d.size = d' := by rw [← h1]; simp
  rwa [e, e'] at h3
/-- slices.SortFunc: a permutation, sorted. -/
theorem sortFunc_calls {P : Program} {ρ : Ren} (L : SlLaysF0.n6 P ρ) {T k : Nat} (aE : ∀ w, (isAgg (ρ.t 24)).run P w = .ok true w) (zE : ∀ w, (Go.sizeOf (ρ.t 24)).run P w = .ok k w) {α : Type} {f : α → D} {enc : α → List Value}
    (hk : ∀ x, (enc x).length = k) (h1 : ∀ x, ∀ v ∈ enc x, v.oneCell' = true) (hopen : ∀ {s : St} {cs : List Value} {x : α}, RC s cs (f x) → cs = enc x) (hclose : ∀ (s : St) (x : α), RC s (enc x) (f x)) (cf : α → α → Int) (g : Nat) (cb : Array Value) (hO : ∀ [Inhabited α], SWO (ltOf cf))
    (eg : ∀ args w, (callFunc g args).run P w = .ok (.enter g args) w) (hcmp : ∀ (W : World) (x y : α), Calls P g (#[.agg (enc x).toArray, .agg (enc y).toArray] ++ cb) W fun e w' => e = .returned (.int .i64 (cf x y)) ∧ ∃ q os', w' = grow (W.drewN q) os')
    {s : St} {l : Lab} {v : Value} {xs : List α} (h : Own s l T k v (xs.map f)) (hsz : xs.length < 4611686018427387904) :
    Calls P (ρ.f 6) #[v, .func (.func g) #[] cb] s.w (Ret s (KC l.o l.c) (fun s1 u => u = .tuple #[] ∧ ∃ ys : List α, Own s1 l T k v (ys.map f) ∧ ys.Perm xs ∧ ys.Pairwise (fun a b => ltOf cf b a = false))) := by
  have hl0 := h.1
  cases xs with
  | nil =>
    obtain ⟨a, cap, hv, -⟩ := h.sl.val
    simp only [List.map_nil, List.length_nil] at hv
    subst hv
    refine (AnyF.slices_SortFunc_none L a cap _ s.w).mono ?_
    rintro e w' ⟨rfl, rfl⟩
    exact Ret.mk ((Step.refl s).of0 (fun c hc => hl0 hc.1.symm)) ⟨rfl, [], h, .refl _, List.Pairwise.nil⟩
  | cons x0 xs0 =>
    haveI : Inhabited α := ⟨x0⟩
    generalize hxs : x0 :: xs0 = xs at h hsz ⊢
    have hpos : 0 < xs.length := by rw [← hxs]; simp
    have hpos' : 0 < (xs.map f).length := by rw [List.length_map]; exact hpos
    obtain ⟨b, cap, hv⟩ : ∃ b cap, v = .slice (some ⟨b, 0, none⟩) (xs.map f).length cap := by
      obtain ⟨h0, h1', ys, ho, hg, hr⟩ := h
      rcases ho.2 with ⟨rfl, hn⟩ | ⟨g', cap', cur, rfl, hb, hgg, hle', hcm, hcs, ht⟩
      · rw [hn] at hpos'; exact absurd hpos' (Nat.lt_irrefl _)
      · exact ⟨_, _, rfl⟩
    obtain ⟨cur, hgg, hgl, hsz', hlc, hcm, hrr, hlen⟩ := h.heap hv hpos'
    have hb : b < s.w.heap.size := (Array.getElem?_eq_some_iff.1 hgg).1
    have hsz2 : xs.toArray.size = xs.length := by simp
    have hfl : cur.toList.take ((xs.map f).length * k) = (flatK enc k xs.toArray).toList := by
      refine List.ext_getElem ?_ ?_
      · have e1 : (flatK enc k xs.toArray).toList.length = xs.length * k := by rw [Array.length_toList, size_flatK]; simp
        rw [hrr.1, e1, List.length_map]
      · intro t ht1 ht2
        have ht : t < xs.length * k := by rw [hrr.1] at ht1; simpa using ht1
        have k0 : 0 < k := by rcases Nat.eq_zero_or_pos k with h | h; · subst h; simp at ht
                              · exact h
        have hi : t / k < xs.length := by rw [Nat.div_lt_iff_lt_mul k0]; exact ht
        have hc := hopen (by have := hrr.2 (t / k) (by simpa using hi); rwa [List.getElem_map] at this)
        have h2 := flat_chunk hk xs.toArray (t / k) (by simpa using hi)
        have h3 : xs.toArray[t / k]! = xs[t / k] := by rw [getElem!_pos _ _ (by simpa using hi)]; simp
        rw [h3, ← hc] at h2
        have ht3 : t / k * k + t % k = t := by rw [Nat.mul_comm]; exact Nat.div_add_mod t k
        have hj : t % k < k := Nat.mod_lt _ k0
        have h4 := congrArg (fun l : List Value => l[t % k]?) h2
        simp only [List.getElem?_take, hj, if_true, List.getElem?_drop, ht3] at h4
        rw [List.getElem?_eq_getElem ht2] at h4
        have hlt2 : t < (List.map f xs).length * k := by rw [List.length_map]; exact ht
        rw [if_pos hlt2] at h4
        rw [List.getElem_take]
        have hlt3 : t < cur.toList.length := by
          have := ht1; rw [List.length_take] at this; omega
        rw [List.getElem?_eq_getElem hlt3] at h4
        exact (Option.some.inj h4).symm
    have hH : HoldsK enc k s.w b 0 xs.toArray := by
      intro j hj
      rw [size_flatK] at hj
      rw [Nat.zero_add]
      have hj' : j < (flatK enc k xs.toArray).toList.length := by rw [Array.length_toList, size_flatK]; exact hj
      have e1 : cur[j]? = some (flatK enc k xs.toArray)[j]! := by
        have e2 := congrArg (fun l : List Value => l[j]?) hfl
        simp only [List.getElem?_take] at e2
        rw [if_pos (by simpa using hj), List.getElem?_eq_getElem hj', Array.getElem_toList, Array.getElem?_toList] at e2
        rw [e2, getElem!_pos _ _ (by rw [size_flatK]; exact hj)]
      exact ⟨by simp [World.cell?, hgg, e1], by simp [World.frozen?, hgg]⟩
    have hc := AnyQ.slices_SortFunc L k aE zE enc hk h1 cf hO g cb b 0 cap xs.toArray s.w eg (fun m os dk _ x y => hcmp _ x y) hH hb (by simpa using hsz)
    rw [hv, List.length_map, ← hsz2]
    refine hc.mono ?_
    rintro e w' ⟨rfl, d', n, os, hp, hs, rfl⟩
    have hp' := perm_list hp
    have hs' : SortedIn (ltOf cf) 0 d'.size d' := by rw [hp.1]; exact hs
    have hd' : d'.size = xs.length := by rw [hp.1, hsz2]
    -- the states
    let sA : St := ⟨Go.Sort.ahead s.w n, s.g, s.wf⟩
    have stA : Step K0 s sA := ⟨rfl, rfl, rfl, Nat.le_refl _, fun _ _ _ => ⟨rfl, rfl⟩, fun _ h => h⟩
    have hA := h.up stA id
    have hr' : RCs sA k (flatK enc k d').toList (d'.toList.map f) := by
      refine ⟨by rw [Array.length_toList, size_flatK]; simp, fun i hi => ?_⟩
      have hi' : i < d'.size := by simpa using hi
      rw [flat_chunk hk d' i hi', List.getElem_map, getElem!_pos d' i hi', Array.getElem_toList]
      exact hclose _ _
    obtain ⟨stB, hB⟩ := hA.putAll hv hr' (by simp [hd']) hpos'
    have ew : putRowK enc k (Go.Sort.ahead s.w n) b 0 d' = (Go.Sort.ahead s.w n).setCells b 0 (flatK enc k d').toList := by
      have e1 : putRow id (Go.Sort.ahead s.w n) b 0 (flatK enc k xs.toArray) = Go.Sort.ahead s.w n := putRowK_self enc k _ b 0 _ (holdsK_ahead enc k s.w n b 0 _ hH)
      have e2 := setCells_putRow (Go.Sort.ahead s.w n) b 0 (flatK enc k d').toList 0 (flatK enc k xs.toArray) (by rw [Array.length_toList, size_flatK, size_flatK, hd']; simp)
      rw [e1, setMany_all _ _ (by rw [size_flatK, size_flatK, hd']; simp)] at e2
      exact e2.symm
    let sC : St := ⟨grow (sA.re ((Go.Sort.ahead s.w n).setCells b 0 (flatK enc k d').toList)).w os, s.g, s.wf⟩
    have stC : Step K0 (sA.re ((Go.Sort.ahead s.w n).setCells b 0 (flatK enc k d').toList)) sC := ⟨rfl, rfl, rfl, by show _ ≤ (_ ++ os).size; simp, fun c hc _ => ⟨by show (_ ++ os)[c]? = _; rw [Array.getElem?_append_left hc], rfl⟩, fun _ h => h⟩
    have hC := hB.up stC id
    have eC : sortWorldK enc k s.w b 0 n d' os = sC.w := by show grow (putRowK enc k (Go.Sort.ahead s.w n) b 0 d') os = grow _ os; rw [ew]; rfl
    rw [eC]
    have stAll : Step (KC l.o l.c) s sC := ((stA.of0 (fun c hc => hl0 hc.1.symm)).transK stB).trans0 stC
    refine Ret.mk stAll ⟨rfl, d'.toList, ?_, by simpa using hp', sorted_list hs'⟩
    rw [hv, List.length_map] at hC
    rw [hsz2]
    exact hC
end Go.Fw
