/-
  Texts that belong together, joined: VcLink, VcOpen.
-/
import Derived.Test.YtkmmphkjmamckabDoorZB
import Derived.ProofKit
import Derived.OpenShut
import Derived.ChangeSame
import Derived.Test.YtkmmphkjmamckabDoorRows
import Derived.WideKeyArgs
/-
  From our triple to what the rows ask.
-/
namespace Go.Proofs.YtkmmphkjmamckabDoor
open Go Go.RowKit Go.ChangeShapes Go.WideShapes Go.ChangeAt
set_option linter.all false

theorem Spec.below {P : Program} {f : FuncId} {args : Array Value} {w : World} {Q : Ending → Prop} (h : Spec P f args w fun e u' => Q e ∧ Ext w u') : Calls P f args w fun e w' => Q e ∧ Below w.heap.size w w' :=
  (h w (Le.refl w)).mono fun e w' ⟨u', ⟨hq, hu⟩, hle, hk⟩ => ⟨hq, ⟨hle.os.trans hu.os, hle.tape.trans hu.tape, hle.output.trans hu.output, by rw [hle.size]; exact hu.size, fun k hk' => by
    have h1 := hu.old k hk' fun h => h
    have ho : w.heap[k]? = some (w.heap[k]'hk') := Array.getElem?_eq_getElem hk'
    rcases hle.block k _ (h1.trans ho) with h2 | h2
    · exact (hk.hole k (by rw [ho, h2])).2
    · rw [h2, ho]⟩⟩

/-- A law that leaves all as it was, in a world that is as it was below. -/
theorem post_below {H : Type} {enc : TypeId × Value → H} {P : Program} {f : Func} {s : ChangeSpec} {apart fresh handsOn again : Bool} {W W' : World} {args : Array Value} {v : Value} {ds gs : List (DataW H)} {before pa pv : List MemPlace}
    (hW : DataW.Whole enc P f.params.toList s.vars apart W args.toList ds gs before) (hb : Below W.heap.size W W') (hps : before = pa ++ pv)
    (hargs : ∀ sp : Nat → Bool, (∀ p ∈ before, sp p.block = true) → DataW.TrodAll enc P W' 0 sp true f.params.toList args.toList (s.fn H (ds ++ gs)).args pa)
    (hvars : ∀ sp : Nat → Bool, (∀ p ∈ before, sp p.block = true) → DataW.TrodVars enc P W' sp s.vars (s.fn H (ds ++ gs)).vars pv)
    (hres : ∀ (b : Nat) (sp : Nat → Bool) (hd : Bool), DataW.TrodAll enc P W' b sp hd f.resultTypes.toList (v.resultList f.resultTypes.size) (s.fn H (ds ++ gs)).results [])
    (hok : ∀ (j : Nat) (t : TypeId) (r : Value), f.resultTypes[j]? = some t → (v.resultList f.resultTypes.size)[j]? = some r → Value.okWide P W' .any 0 t r) : s.post enc P f apart fresh handsOn again W args v W' := by
  have hlt : ∀ p ∈ before, decide (p.block < W.heap.size) = true := fun p hp => by simpa using hW.lt p hp
  have hmem : ∀ p, p ∈ before ↔ p ∈ pa ∨ p ∈ pv := fun p => by rw [hps, List.mem_append]
  refine ⟨ds, gs, before, [], pa, pv, hW, hres _ _ _, hargs _ hlt, hvars _ hlt, World.keptBut_mono (fun p hp => ⟨hp, .inr ((hmem p).1 hp)⟩) (hb.frame (· ∈ before)), fun _ => ?_⟩
  have hW0 := hW
  obtain ⟨_, _, _, _, _, hz, hn⟩ := hW
  refine ⟨hok, _, _, ([] ++ pa) ++ pv, ⟨[] ++ pa, pv, trodAll_append (hargs _ fun _ _ => rfl) (hres _ _ _), hvars _ fun _ _ => rfl, rfl, fun b off hp => ?_, fun ha => ?_⟩, fun p hp _ => by simpa [hmem] using hp⟩
  · have hin : MemPlace.cell b off ∈ before := by simpa [hmem] using hp
    rw [hb.frozen (by have := hW0.lt _ hin; exact this)]
    exact hz b off hin
  · have := hn ha
    rw [hps] at this
    simpa using this

end Go.Proofs.YtkmmphkjmamckabDoor

/-
  From what an argument reads to what lies in memory; and back, behind the call.
-/
namespace Go.Proofs.YtkmmphkjmamckabDoor
open Go Go.RowKit Go.ChangeShapes Go.WideShapes Go.ChangeAt
set_option linter.all false

section
variable {H : Type} {enc : TypeId × Value → H} {P : Program} {W W' : World}

/-- All arguments read behind the call as they did before. -/
theorem trodAll_stays (hl : laidOutB P = true) {sp : Nat → Bool} : ∀ {ts : List TypeId} {vs : List Value} {ds : List (DataW H)} {ps : List MemPlace}, (∀ t ∈ ts, P.readableRec t = true ∧ t < P.types.size) → DataW.TrodAll enc P W 0 (fun _ => true) true ts vs ds ps → (∀ p ∈ ps, W.sameAt W' p) → (∀ p ∈ ps, sp p.block = true) → DataW.TrodAll enc P W' 0 sp true ts vs ds ps
  | [], [], [], _, _, h, _, _ => h
  | t :: ts, v :: vs, d :: ds, ps, hr, h, hs, hp => by
    obtain ⟨p, q, h1, h2, rfl⟩ := h
    exact ⟨p, q, WideElems.Trod_stays hl (hr t List.mem_cons_self).1 (hr t List.mem_cons_self).2 h1 (fun x hx => hs x (List.mem_append_left _ hx)) (fun x hx => hp x (List.mem_append_left _ hx)),
      trodAll_stays hl (fun t ht => hr t (List.mem_cons_of_mem _ ht)) h2 (fun x hx => hs x (List.mem_append_right _ hx)) (fun x hx => hp x (List.mem_append_right _ hx)), rfl⟩
  | [], _ :: _, _, _, _, h, _, _ => h.elim
  | [], [], _ :: _, _, _, h, _, _ => h.elim
  | _ :: _, [], _, _, _, h, _, _ => h.elim
  | _ :: _, _ :: _, [], _, _, h, _, _ => h.elim

/-- A law that answers true, and leaves all as it was below. -/
theorem law_post {f : Func} {s : ChangeSpec} {args : Array Value} {ds gs : List (DataW H)} {before : List MemPlace} {bt : TypeId} (hl : laidOutB P = true) (hv : s.vars = []) (hr : ∀ t ∈ f.params.toList, P.readableRec t = true ∧ t < P.types.size)
    (hbt : P.underlying bt = some .bool) (hres : f.resultTypes = #[bt])
    (hW : DataW.Whole enc P f.params.toList s.vars false W args.toList ds gs before) (hb : Below W.heap.size W W')
    (hfn : (s.fn H (ds ++ gs)).results = [.lit (.bool true)] ∧ (s.fn H (ds ++ gs)).args = ds ∧ (s.fn H (ds ++ gs)).vars = []) : s.post enc P f false true false false W args (.bool true) W' := by
  have hW' := hW
  obtain ⟨p, q, hA, hV, rfl, hfz, hnd⟩ := hW
  rw [hv] at hV
  obtain ⟨rfl, rfl⟩ := trodVars_none hV
  refine post_below (pa := p) (pv := []) hW' hb rfl (fun sp hsp => ?_) (fun sp _ => ?_) (fun b sp hd => ?_) ?_
  · rw [hfn.2.1]
    exact trodAll_stays hl hr hA (fun x hx => hb.same (hW'.lt x (by simpa using hx))) (fun x hx => hsp x (by simpa using hx))
  · rw [hfn.2.2, hv]; rfl
  · rw [hres, hfn.1]
    exact trodAll_cons_mk (shut_bool hbt _) trodAll_mk0
  · exact ok_one hres rfl (okWide_bool_mk hbt _)

theorem add_cell {a : Addr} {i : Nat} {x : Value} (hs : a.spot = none) (h : W.cell? (a.add i) = some x) : W.cell? ⟨a.block, a.off + i, none⟩ = some x := by
  obtain ⟨b, o, s⟩ := a
  simp only at hs
  subst hs
  rw [addr_add] at h
  exact h

theorem cells_rd {a : Addr} {n : Nat} {cs : List Value} (hs : a.spot = none) (h : W.cells? 0 a n = some cs) : cs.length = n ∧ Rd W a.block a.off cs := by
  unfold World.cells? at h
  rw [if_pos (Nat.zero_le _)] at h
  have hl := mapM_some_length h
  simp only [List.length_range] at hl
  refine ⟨hl, (Rd_iff _ _).2 fun j v hj => ?_⟩
  have hlt : j < cs.length := (List.getElem?_eq_some_iff.1 hj).1
  have := mapM_some_get h j j (by rw [List.getElem?_range (by omega)])
  rw [hj] at this
  exact add_cell hs this

theorem cells_spot {a : Addr} {n : Nat} {cs : List Value} (hn : 0 < n) (h : W.cells? 0 a n = some cs) : a.spot = none := by
  unfold World.cells? at h
  rw [if_pos (Nat.zero_le _)] at h
  have hl := mapM_some_length h
  simp only [List.length_range] at hl
  have := mapM_some_get h 0 0 (by rw [List.getElem?_range (by omega)])
  rw [List.getElem?_eq_getElem (by omega)] at this
  have h0 : a.add 0 = a := by unfold Addr.add; rw [if_pos rfl]
  rw [h0] at this
  obtain ⟨_, _, _, _, _, hs⟩ := cell_block this
  exact hs

theorem rd_flatten {b es : Nat} : ∀ (ls : List (List Value)) (o : Nat), (∀ y ∈ ls, y.length = es) → (∀ i, i < ls.length → Rd W b (o + i * es) (ls.getD i [])) → Rd W b o ls.flatten
  | [], _, _, _ => trivial
  | y :: ls, o, hl, h => by
    rw [List.flatten_cons]
    have h0 := h 0 (by simp)
    simp only [Nat.zero_mul, Nat.add_zero, List.getD_cons_zero] at h0
    refine rd_append _ _ _ h0 ?_
    rw [hl y List.mem_cons_self]
    refine rd_flatten ls _ (fun z hz => hl z (List.mem_cons_of_mem _ hz)) fun i hi => ?_
    have := h (i + 1) (by simpa using hi)
    rw [List.getD_cons_succ] at this
    rwa [show o + es + i * es = o + (i + 1) * es by rw [Nat.add_mul]; omega]

theorem bulk_one (d : DataW H) : 1 ≤ Rows.uptoBulk d := by
  cases d with
  | lit l => cases l <;> simp [Rows.uptoBulk]
  | nil => simp [Rows.uptoBulk]
  | ptr d => simp [Rows.uptoBulk]
  | slice elems spare => simp [Rows.uptoBulk]
  | agg parts => simp [Rows.uptoBulk]
  | iface t d => simp [Rows.uptoBulk]
  | map entries => simp [Rows.uptoBulk]
  | held h => simp [Rows.uptoBulk]

theorem bulk_mem {d : DataW H} : ∀ {l : List (DataW H)}, d ∈ l → Rows.uptoBulk d ≤ Rows.uptoBulkAll l
  | x :: r, h => by
    simp only [Rows.uptoBulkAll]
    rcases List.mem_cons.1 h with rfl | h
    · omega
    · have := bulk_mem h; omega

theorem bulk_len : ∀ l : List (DataW H), l.length ≤ Rows.uptoBulkAll l
  | [] => by simp [Rows.uptoBulkAll]
  | x :: r => by
    have := bulk_len r
    have := bulk_one x
    simp only [Rows.uptoBulkAll, List.length_cons]; omega

/-- What one slice reads: its elements, each of those cells, each read by its type. -/
theorem open_slice {t e es : TypeId} (ht : P.underlying t = some (.slice e)) (hes : P.cellsOf e = es) (h0 : 0 < es) {fuel : Nat} {cs : List Value} {x : DataW H × List MemPlace} (h : DataW.trod enc P W 0 (fun _ => true) true fuel t cs = some x) :
    ∃ p n c ls, cs = [.slice p n c] ∧ Arr W es p n ls ∧ n ≤ Rows.uptoBulk x.1 ∧ n ≤ c ∧ ∀ i, i < n → ∃ fuel' y, DataW.trod enc P W 0 (fun _ => true) true fuel' e (ls.getD i []) = some y ∧ Rows.uptoBulk y.1 ≤ Rows.uptoBulk x.1 := by
  rcases DataW.trod_slice ht h with ⟨rfl, rfl⟩ | ⟨a, len, cap, elems, rest, n, _, rfl, rfl, hb, hl, hm, hlen, hel, hsp, hns⟩
  · exact ⟨none, 0, 0, [], rfl, ⟨rfl, rfl, by simp⟩, Nat.zero_le _, Nat.le_refl 0, fun i hi => by omega⟩
  · rw [hes] at hel
    have each : ∀ i, i < len → ∃ c y, W.cells? 0 (a.add (i * es)) es = some c ∧ DataW.trod enc P W 0 (fun _ => true) true n e c = some y ∧ elems[i]? = some y := fun i hi => by
      have h1 := hel i hi
      rw [List.getElem?_eq_getElem (show i < elems.length by omega)] at h1
      rw [Option.bind_eq_some_iff] at h1
      obtain ⟨c, h2, h3⟩ := h1
      exact ⟨c, _, h2, h3, List.getElem?_eq_getElem _⟩
    have hbulk : ∀ i (y : DataW H × List MemPlace), elems[i]? = some y → Rows.uptoBulk y.1 ≤ Rows.uptoBulk (DataW.slice (elems.map (·.1)) (rest.map (·.1))) := fun i y hy => by
      have hm : y.1 ∈ elems.map (·.1) := List.mem_map.2 ⟨y, List.mem_of_getElem? hy, rfl⟩
      have := bulk_mem hm
      simp only [Rows.uptoBulk]
      omega
    have hn : len ≤ Rows.uptoBulk (DataW.slice (elems.map (·.1)) (rest.map (·.1))) := by
      have := bulk_len (elems.map (·.1))
      rw [List.length_map] at this
      simp only [Rows.uptoBulk]
      omega
    let f : Nat → List Value := fun i => (W.cells? 0 (a.add (i * es)) es).getD []
    have hf : ∀ i, i < len → W.cells? 0 (a.add (i * es)) es = some (f i) := fun i hi => by
      obtain ⟨c, y, h1, _⟩ := each i hi
      show _ = some ((W.cells? 0 (a.add (i * es)) es).getD [])
      rw [h1]; rfl
    have hgd : ∀ i, i < len → ((List.range len).map f).getD i [] = f i := fun i hi => by
      simp [List.getD_eq_getElem?_getD, hi]
    refine ⟨some a, len, cap, (List.range len).map f, rfl, ?_, hn, hl, fun i hi => ?_⟩
    · rcases Nat.eq_zero_or_pos len with hz | hpos
      · subst hz
        exact ⟨gets_nil W a, rfl, by simp⟩
      · have hs : a.spot = none := by
          have := hf 0 hpos
          rw [Nat.zero_mul, show a.add 0 = a from by unfold Addr.add; rw [if_pos rfl]] at this
          exact cells_spot h0 this
        have hrd : ∀ i, i < len → (f i).length = es ∧ Rd W a.block (a.off + i * es) (f i) := fun i hi => by
          have h1 := hf i hi
          obtain ⟨b, o, s⟩ := a
          simp only at hs
          subst hs
          rw [addr_add] at h1
          exact cells_rd rfl h1
        have hlen' : ∀ y ∈ (List.range len).map f, y.length = es := fun y hy => by
          obtain ⟨i, hi, rfl⟩ := List.mem_map.1 hy
          exact (hrd i (List.mem_range.1 hi)).1
        exact ⟨⟨fun _ => hs, rd_flatten _ _ hlen' fun i hi => by
          simp only [List.length_map, List.length_range] at hi
          rw [hgd i hi]
          exact (hrd i hi).2⟩, by simp, hlen'⟩
    · obtain ⟨c, y, h1, h2, h3⟩ := each i hi
      have : f i = c := by
        have := hf i hi
        rw [h1] at this
        exact (Option.some.inj this).symm
      rw [hgd i hi, this]
      exact ⟨n, y, h2, hbulk i y h3⟩

theorem open_int' {t : TypeId} (ht : P.underlying t = some (.int .i64)) {fuel : Nat} {cs : List Value} {x : DataW H × List MemPlace} (h : DataW.trod enc P W 0 (fun _ => true) true fuel t cs = some x) : ∃ n : Int, cs = [.int .i64 n] ∧ -9223372036854775808 ≤ n ∧ n ≤ 9223372036854775807 := by
  obtain ⟨n, h1, _, h2⟩ := DataW.trod_int ht h
  exact ⟨n, h1, (bounds_i64 h2).1, (bounds_i64 h2).2⟩

theorem open_str' {t : TypeId} (ht : P.underlying t = some .string) {fuel : Nat} {cs : List Value} {x : DataW H × List MemPlace} (h : DataW.trod enc P W 0 (fun _ => true) true fuel t cs = some x) : ∃ s : ByteArray, cs = [.string s] ∧ s.size ≤ Rows.uptoBulk x.1 := by
  obtain ⟨s, h1, h2, _⟩ := DataW.trod_string ht h
  refine ⟨s, h1, ?_⟩
  rw [h2]
  simp only [Rows.uptoBulk, Array.length_toList]
  exact Nat.le_succ _

/-- One field of a struct. -/
theorem open_field {t : TypeId} {fs : Array Field} (ht : P.underlying t = some (.struct fs)) {fuel : Nat} {cs : List Value} {x : DataW H × List MemPlace} (h : DataW.trod enc P W 0 (fun _ => true) true fuel t cs = some x) :
    cs.length = P.cellsOf t ∧ ∀ (i : Nat) (f : Field), fs[i]? = some f → ∃ fuel' y, DataW.trod enc P W 0 (fun _ => true) true fuel' f.type ((cs.drop f.offset).take (P.cellsOf f.type)) = some y ∧ Rows.uptoBulk y.1 ≤ Rows.uptoBulk x.1 := by
  obtain ⟨xs, n, _, hx, hl, hsz, hf⟩ := DataW.trod_struct ht h
  refine ⟨hl, fun i f hi => ?_⟩
  have h1 := hf i f hi
  have hlt : i < xs.length := by
    rw [hsz]
    exact (Array.getElem?_eq_some_iff.1 hi).1
  rw [List.getElem?_eq_getElem hlt] at h1
  refine ⟨n, _, h1, ?_⟩
  have hm : xs[i].1 ∈ xs.map (·.1) := List.mem_map.2 ⟨_, List.getElem_mem hlt, rfl⟩
  have := bulk_mem hm
  rw [hx]
  simp only [Rows.uptoBulk]
  omega

/-- One element of an array. -/
theorem open_elem {t e : TypeId} {m : Nat} (ht : P.underlying t = some (.array m e)) {fuel : Nat} {cs : List Value} {x : DataW H × List MemPlace} (h : DataW.trod enc P W 0 (fun _ => true) true fuel t cs = some x) :
    cs.length = P.cellsOf t ∧ ∀ i, i < m → ∃ fuel' y, DataW.trod enc P W 0 (fun _ => true) true fuel' e ((cs.drop (i * P.cellsOf e)).take (P.cellsOf e)) = some y ∧ Rows.uptoBulk y.1 ≤ Rows.uptoBulk x.1 := by
  obtain ⟨xs, n, _, hx, hl, hsz, hf⟩ := DataW.trod_array ht h
  refine ⟨hl, fun i hi => ?_⟩
  have h1 := hf i hi
  have hlt : i < xs.length := by omega
  rw [List.getElem?_eq_getElem hlt] at h1
  refine ⟨n, _, h1, ?_⟩
  have hm : xs[i].1 ∈ xs.map (·.1) := List.mem_map.2 ⟨_, List.getElem_mem hlt, rfl⟩
  have := bulk_mem hm
  rw [hx]
  simp only [Rows.uptoBulk]
  omega

theorem bound {l : List (DataW H)} (hk : Rows.uptoSmall H l = true) : Rows.uptoBulkAll l ≤ 1048576 := by
  unfold Rows.uptoSmall at hk
  exact of_decide_eq_true hk

end

end Go.Proofs.YtkmmphkjmamckabDoor

