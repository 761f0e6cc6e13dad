/- Texts joined: ZL, VcRep, VcRep3, ARep, DNum, ARep2, GWalk6, PClone, PWalk. -/
import Derived.ProofKit
import Derived.OpenShut
import Derived.ChangeSame
import Derived.Test.YtkmmphkjmamckacGreatDoorRows
import Derived.WideKeyArgs
import Derived.Test.YtkmmphkjmamckacGreatDoorZ02
import Derived.Test.YtkmmphkjmamckacGreatDoorZ04
import Derived.Test.YtkmmphkjmamckacGreatDoorZ06
namespace Go.Proofs.YtkmmphkjmamckacGreatDoor
open Go
set_option linter.all false
open Go Go.RowKit Go.ChangeShapes Go.WideShapes Go.ChangeAt
theorem Spec.below {P : Program} {f : FuncId} {args : Array Value} {w : World} {Q : Ending -> Prop} (h : Spec P f args w fun e u' => Q e /\ Ext w u') : Calls P f args w fun e w' => Q e /\ Below w.heap.size w w' :=
 (h w (Le.refl w)).mono fun e w' ⟨u', ⟨hq, hu⟩, hle, hk⟩ => ⟨hq, ⟨hle.os.trans hu.os, hle.tape.trans hu.tape, hle.output.trans hu.output, by rw [hle.size]; exact hu.size, fun k hk' => by
  have h1 := hu.old k hk' fun h => h
  have ho : w.heap[k]? = some (w.heap[k]'hk') := Array.getElem?_eq_getElem hk'
  rcases hle.block k _ (h1.trans ho) with h2 | h2
  ·exact (hk.hole k (by rw [ho, h2])).2
  ·rw [h2, ho]⟩⟩
theorem Dq {H : Type} {enc : TypeId × Value -> H} {P : Program} {f : Func} {s : ChangeSpec} {apart fresh handsOn again : Bool} {W W' : World} {args : Array Value} {v : Value} {ds gs : List (DataW H)} {before pa pv : List MemPlace}
  (hW : DataW.Whole enc P f.params.toList s.vars apart W args.toList ds gs before) (hb : Below W.heap.size W W') (hps : before = pa ++ pv)
  (hargs : ∀ sp : Nat -> Bool, (∀ p ∈ before, sp p.block = true) -> DataW.TrodAll enc P W' 0 sp true f.params.toList args.toList (s.fn H (ds ++ gs)).args pa)
  (hvars : ∀ sp : Nat -> Bool, (∀ p ∈ before, sp p.block = true) -> DataW.TrodVars enc P W' sp s.vars (s.fn H (ds ++ gs)).vars pv)
  (hres : ∀ (b : Nat) (sp : Nat -> Bool) (hd : Bool), DataW.TrodAll enc P W' b sp hd f.resultTypes.toList (v.resultList f.resultTypes.size) (s.fn H (ds ++ gs)).results [])
  (hok : ∀ (j : Nat) (t : TypeId) (r : Value), f.resultTypes[j]? = some t -> (v.resultList f.resultTypes.size)[j]? = some r -> Value.okWide P W' .any 0 t r) : s.post enc P f apart fresh handsOn again W args v W' := by
 have hlt : ∀ p ∈ before, decide (p.block < W.heap.size) = true := fun p hp => by simpa using hW.lt p hp
 have hmem : ∀ p, p ∈ before ↔ p ∈ pa \/ p ∈ pv := fun p => by rw [hps, List.mem_append]
 refine ⟨ds, gs, before, [], pa, pv, hW, hres _ _ _, hargs _ hlt, hvars _ hlt, World.keptBut_mono (fun p hp => ⟨hp, .inr ((hmem p).1 hp)⟩) (hb.frame (· ∈ before)), fun _ => ?_⟩
 have hW0 := hW
 obtain ⟨_, _, _, _, _, hz, hn⟩ := hW
 refine ⟨hok, _, _, ([] ++ pa) ++ pv, ⟨[] ++ pa, pv, trodAll_append (hargs _ fun _ _ => rfl) (hres _ _ _), hvars _ fun _ _ => rfl, rfl, fun b off hp => ?_, fun ha => ?_⟩, fun p hp _ => by simpa [hmem] using hp⟩
 ·have hin : MemPlace.cell b off ∈ before := by simpa [hmem] using hp
  rw [hb.frozen (by have := hW0.lt _ hin; exact this)]
  exact hz b off hin
 ·have := hn ha
  rw [hps] at this
  simpa using this
open Go Go.RowKit Go.ChangeShapes Go.WideShapes Go.ChangeAt
section
variable {H : Type} {enc : TypeId × Value -> H} {P : Program} {W W' : World}
theorem q9 (hl : laidOutB P = true) {sp : Nat -> Bool} : ∀ {ts : List TypeId} {vs : List Value} {ds : List (DataW H)} {ps : List MemPlace}, (∀ t ∈ ts, P.readableRec t = true /\ t < P.types.size) -> DataW.TrodAll enc P W 0 (fun _ => true) true ts vs ds ps -> (∀ p ∈ ps, W.sameAt W' p) -> (∀ p ∈ ps, sp p.block = true) -> DataW.TrodAll enc P W' 0 sp true ts vs ds ps
 | [], [], [], _, _, h, _, _ => h
 | t :: ts, v :: vs, d :: ds, ps, hr, h, hs, hp => by
  obtain ⟨p, q, h1, h2, rfl⟩ := h
  exact ⟨p, q, WideElems.Trod_stays hl (hr t List.mem_cons_self).1 (hr t List.mem_cons_self).2 h1 (fun x hx => hs x (List.mem_append_left _ hx)) (fun x hx => hp x (List.mem_append_left _ hx)),
   q9 hl (fun t ht => hr t (List.mem_cons_of_mem _ ht)) h2 (fun x hx => hs x (List.mem_append_right _ hx)) (fun x hx => hp x (List.mem_append_right _ hx)), rfl⟩
 | [], _ :: _, _, _, _, h, _, _ => h.elim
 | [], [], _ :: _, _, _, h, _, _ => h.elim
 | _ :: _, [], _, _, _, h, _, _ => h.elim
 | _ :: _, _ :: _, [], _, _, h, _, _ => h.elim
theorem FI {f : Func} {s : ChangeSpec} {args : Array Value} {ds gs : List (DataW H)} {before : List MemPlace} {bt : TypeId} (hl : laidOutB P = true) (hv : s.vars = []) (hr : ∀ t ∈ f.params.toList, P.readableRec t = true /\ t < P.types.size)
  (hbt : P.underlying bt = some .bool) (hres : f.resultTypes = #[bt])
  (hW : DataW.Whole enc P f.params.toList s.vars false W args.toList ds gs before) (hb : Below W.heap.size W W')
  (hfn : (s.fn H (ds ++ gs)).results = [.lit (.bool true)] /\ (s.fn H (ds ++ gs)).args = ds /\ (s.fn H (ds ++ gs)).vars = []) : s.post enc P f false true false false W args (.bool true) W' := by
 have hW' := hW
 obtain ⟨p, q, hA, hV, rfl, hfz, hnd⟩ := hW
 rw [hv] at hV
 obtain ⟨rfl, rfl⟩ := trodVars_none hV
 refine Dq (pa := p) (pv := []) hW' hb rfl (fun sp hsp => ?_) (fun sp _ => ?_) (fun b sp hd => ?_) ?_
 ·rw [hfn.2.1]
  exact q9 hl hr hA (fun x hx => hb.same (hW'.lt x (by simpa using hx))) (fun x hx => hsp x (by simpa using hx))
 ·rw [hfn.2.2, hv]; rfl
 ·rw [hres, hfn.1]
  exact trodAll_cons_mk (shut_bool hbt _) trodAll_mk0
 ·exact ok_one hres rfl (okWide_bool_mk hbt _)
theorem Ga {a : Addr} {i : Nat} {x : Value} (hs : a.spot = none) (h : W.cell? (a.add i) = some x) : W.cell? ⟨a.block, a.off + i, none⟩ = some x := by
 obtain ⟨b, o, s⟩ := a
 simp only at hs
 subst hs
 rw [gG] at h
 exact h
theorem GN {a : Addr} {n : Nat} {cs : List Value} (hs : a.spot = none) (h : W.cells? 0 a n = some cs) : cs.length = n /\ Rd W a.block a.off cs := by
 unfold World.cells? at h
 rw [if_pos (Nat.zero_le _)] at h
 have hl := mapM_some_length h
 simp only [List.length_range] at hl
 refine ⟨hl, (l8 _ _).2 fun j v hj => ?_⟩
 have hlt : j < cs.length := (List.getElem?_eq_some_iff.1 hj).1
 have := mapM_some_get h j j (by rw [List.getElem?_range (by omega)])
 rw [hj] at this
 exact Ga hs this
theorem D1 {a : Addr} {n : Nat} {cs : List Value} (hn : 0 < n) (h : W.cells? 0 a n = some cs) : a.spot = none := by
 unfold World.cells? at h
 rw [if_pos (Nat.zero_le _)] at h
 have hl := mapM_some_length h
 simp only [List.length_range] at hl
 have := mapM_some_get h 0 0 (by rw [List.getElem?_range (by omega)])
 rw [List.getElem?_eq_getElem (by omega)] at this
 have h0 : a.add 0 = a := by unfold Addr.add; rw [if_pos rfl]
 rw [h0] at this
 obtain ⟨_, _, _, _, _, hs⟩ := fD this
 exact hs
theorem w7 {b es : Nat} : ∀ (ls : List (List Value)) (o : Nat), (∀ y ∈ ls, y.length = es) -> (∀ i, i < ls.length -> Rd W b (o + i * es) (ls.getD i [])) -> Rd W b o ls.flatten
 | [], _, _, _ => trivial
 | y :: ls, o, hl, h => by
  rw [List.flatten_cons]
  have h0 := h 0 (by simp)
  simp only [Nat.zero_mul, Nat.add_zero, List.getD_cons_zero] at h0
  refine yT _ _ _ h0 ?_
  rw [hl y List.mem_cons_self]
  refine w7 ls _ (fun z hz => hl z (List.mem_cons_of_mem _ hz)) fun i hi => ?_
  have := h (i + 1) (by simpa using hi)
  rw [List.getD_cons_succ] at this
  rwa [show o + es + i * es = o + (i + 1) * es by rw [Nat.add_mul]; omega]
theorem F9 (d : DataW H) : 1 <= Rows.uptoBulk d := by
 cases d with
 | lit l => cases l <;> simp [Rows.uptoBulk]
 | nil => simp [Rows.uptoBulk]
 | ptr d => simp [Rows.uptoBulk]
 | slice elems spare => simp [Rows.uptoBulk]
 | agg parts => simp [Rows.uptoBulk]
 | iface t d => simp [Rows.uptoBulk]
 | map entries => simp [Rows.uptoBulk]
 | held h => simp [Rows.uptoBulk]
theorem sj {d : DataW H} : ∀ {l : List (DataW H)}, d ∈ l -> Rows.uptoBulk d <= Rows.uptoBulkAll l
 | x :: r, h => by
  simp only [Rows.uptoBulkAll]
  rcases List.mem_cons.1 h with rfl | h
  ·omega
  ·have := sj h; omega
theorem BG : ∀ l : List (DataW H), l.length <= Rows.uptoBulkAll l
 | [] => by simp [Rows.uptoBulkAll]
 | x :: r => by
  have := BG r
  have := F9 x
  simp only [Rows.uptoBulkAll, List.length_cons]; omega
theorem D3 {t e es : TypeId} (ht : P.underlying t = some (.slice e)) (hes : P.cellsOf e = es) (h0 : 0 < es) {fuel : Nat} {cs : List Value} {x : DataW H × List MemPlace} (h : DataW.trod enc P W 0 (fun _ => true) true fuel t cs = some x) :
  ∃ p n c ls, cs = [.slice p n c] /\ Arr W es p n ls /\ n <= Rows.uptoBulk x.1 /\ n <= c /\ ∀ i, i < n -> ∃ fuel' y, DataW.trod enc P W 0 (fun _ => true) true fuel' e (ls.getD i []) = some y /\ Rows.uptoBulk y.1 <= Rows.uptoBulk x.1 := by
 rcases DataW.trod_slice ht h with ⟨rfl, rfl⟩ | ⟨a, len, cap, elems, rest, n, _, rfl, rfl, hb, hl, hm, hlen, hel, hsp, hns⟩
 ·exact ⟨none, 0, 0, [], rfl, ⟨rfl, rfl, by simp⟩, Nat.zero_le _, Nat.le_refl 0, fun i hi => by omega⟩
 ·rw [hes] at hel
  have each : ∀ i, i < len -> ∃ c y, W.cells? 0 (a.add (i * es)) es = some c /\ DataW.trod enc P W 0 (fun _ => true) true n e c = some y /\ elems[i]? = some y := fun i hi => by
   have h1 := hel i hi
   rw [List.getElem?_eq_getElem (show i < elems.length by omega)] at h1
   rw [Option.bind_eq_some_iff] at h1
   obtain ⟨c, h2, h3⟩ := h1
   exact ⟨c, _, h2, h3, List.getElem?_eq_getElem _⟩
  have hbulk : ∀ i (y : DataW H × List MemPlace), elems[i]? = some y -> Rows.uptoBulk y.1 <= Rows.uptoBulk (DataW.slice (elems.map (·.1)) (rest.map (·.1))) := fun i y hy => by
   have hm : y.1 ∈ elems.map (·.1) := List.mem_map.2 ⟨y, List.mem_of_getElem? hy, rfl⟩
   have := sj hm
   simp only [Rows.uptoBulk]
   omega
  have hn : len <= Rows.uptoBulk (DataW.slice (elems.map (·.1)) (rest.map (·.1))) := by
   have := BG (elems.map (·.1))
   rw [List.length_map] at this
   simp only [Rows.uptoBulk]
   omega
  let f : Nat -> List Value := fun i => (W.cells? 0 (a.add (i * es)) es).getD []
  have hf : ∀ i, i < len -> W.cells? 0 (a.add (i * es)) es = some (f i) := fun i hi => by
   obtain ⟨c, y, h1, _⟩ := each i hi
   show _ = some ((W.cells? 0 (a.add (i * es)) es).getD [])
   rw [h1]; rfl
  have hgd : ∀ i, i < len -> ((List.range len).map f).getD i [] = f i := fun i hi => by
   simp [List.getD_eq_getElem?_getD, hi]
  refine ⟨some a, len, cap, (List.range len).map f, rfl, ?_, hn, hl, fun i hi => ?_⟩
  ·rcases Nat.eq_zero_or_pos len with hz | hpos
   ·subst hz
    exact ⟨sP W a, rfl, by simp⟩
   ·have hs : a.spot = none := by
     have := hf 0 hpos
     rw [Nat.zero_mul, show a.add 0 = a from by unfold Addr.add; rw [if_pos rfl]] at this
     exact D1 h0 this
    have hrd : ∀ i, i < len -> (f i).length = es /\ Rd W a.block (a.off + i * es) (f i) := fun i hi => by
     have h1 := hf i hi
     obtain ⟨b, o, s⟩ := a
     simp only at hs
     subst hs
     rw [gG] at h1
     exact GN rfl h1
    have hlen' : ∀ y ∈ (List.range len).map f, y.length = es := fun y hy => by
     obtain ⟨i, hi, rfl⟩ := List.mem_map.1 hy
     exact (hrd i (List.mem_range.1 hi)).1
    exact ⟨⟨fun _ => hs, w7 _ _ hlen' fun i hi => by
     simp only [List.length_map, List.length_range] at hi
     rw [hgd i hi]
     exact (hrd i hi).2⟩, by simp, hlen'⟩
  ·obtain ⟨c, y, h1, h2, h3⟩ := each i hi
   have : f i = c := by
    have := hf i hi
    rw [h1] at this
    exact (Option.some.inj this).symm
   rw [hgd i hi, this]
   exact ⟨n, y, h2, hbulk i y h3⟩
theorem Fu {t : TypeId} (ht : P.underlying t = some (.int .i64)) {fuel : Nat} {cs : List Value} {x : DataW H × List MemPlace} (h : DataW.trod enc P W 0 (fun _ => true) true fuel t cs = some x) : ∃ n : Int, cs = [.int .i64 n] /\ -9223372036854775808 <= n /\ n <= 9223372036854775807 := by
 obtain ⟨n, h1, _, h2⟩ := DataW.trod_int ht h
 exact ⟨n, h1, (bounds_i64 h2).1, (bounds_i64 h2).2⟩
theorem EO {t : TypeId} (ht : P.underlying t = some .string) {fuel : Nat} {cs : List Value} {x : DataW H × List MemPlace} (h : DataW.trod enc P W 0 (fun _ => true) true fuel t cs = some x) : ∃ s : ByteArray, cs = [.string s] /\ s.size <= Rows.uptoBulk x.1 := by
 obtain ⟨s, h1, h2, _⟩ := DataW.trod_string ht h
 refine ⟨s, h1, ?_⟩
 rw [h2]
 simp only [Rows.uptoBulk, Array.length_toList]
 exact Nat.le_succ _
theorem Eb {t : TypeId} {fs : Array Field} (ht : P.underlying t = some (.struct fs)) {fuel : Nat} {cs : List Value} {x : DataW H × List MemPlace} (h : DataW.trod enc P W 0 (fun _ => true) true fuel t cs = some x) :
  cs.length = P.cellsOf t /\ ∀ (i : Nat) (f : Field), fs[i]? = some f -> ∃ fuel' y, DataW.trod enc P W 0 (fun _ => true) true fuel' f.type ((cs.drop f.offset).take (P.cellsOf f.type)) = some y /\ Rows.uptoBulk y.1 <= Rows.uptoBulk x.1 := by
 obtain ⟨xs, n, _, hx, hl, hsz, hf⟩ := DataW.trod_struct ht h
 refine ⟨hl, fun i f hi => ?_⟩
 have h1 := hf i f hi
 have hlt : i < xs.length := by
  rw [hsz]
  exact (Array.getElem?_eq_some_iff.1 hi).1
 rw [List.getElem?_eq_getElem hlt] at h1
 refine ⟨n, _, h1, ?_⟩
 have hm : xs[i].1 ∈ xs.map (·.1) := List.mem_map.2 ⟨_, List.getElem_mem hlt, rfl⟩
 have := sj hm
 rw [hx]
 simp only [Rows.uptoBulk]
 omega
theorem E0 {t e : TypeId} {m : Nat} (ht : P.underlying t = some (.array m e)) {fuel : Nat} {cs : List Value} {x : DataW H × List MemPlace} (h : DataW.trod enc P W 0 (fun _ => true) true fuel t cs = some x) :
  cs.length = P.cellsOf t /\ ∀ i, i < m -> ∃ fuel' y, DataW.trod enc P W 0 (fun _ => true) true fuel' e ((cs.drop (i * P.cellsOf e)).take (P.cellsOf e)) = some y /\ Rows.uptoBulk y.1 <= Rows.uptoBulk x.1 := by
 obtain ⟨xs, n, _, hx, hl, hsz, hf⟩ := DataW.trod_array ht h
 refine ⟨hl, fun i hi => ?_⟩
 have h1 := hf i hi
 have hlt : i < xs.length := by omega
 rw [List.getElem?_eq_getElem hlt] at h1
 refine ⟨n, _, h1, ?_⟩
 have hm : xs[i].1 ∈ xs.map (·.1) := List.mem_map.2 ⟨_, List.getElem_mem hlt, rfl⟩
 have := sj hm
 rw [hx]
 simp only [Rows.uptoBulk]
 omega
theorem bound {l : List (DataW H)} (hk : Rows.uptoSmall H l = true) : Rows.uptoBulkAll l <= 1048576 := by
 unfold Rows.uptoSmall at hk
 exact of_decide_eq_true hk
end
open Go Go.RowKit Go.ChangeShapes Go.WideShapes Go.ChangeAt
def RepF (T : List TI) (rep : TypeId -> List Value -> Prop) : List (Nat × TypeId) -> List Value -> Prop
 | [], cs => cs = []
 | f :: fs, cs =>
  match tiOf T f.2 with
  | some te => ∃ a b, cs = a ++ b /\ a.length = te.size /\ rep f.2 a /\ RepF T rep fs b
  | none => True
def Rep (T : List TI) (u : World) (B : Nat) : Nat -> TypeId -> List Value -> Prop
 | 0, _, _ => True
 | n + 1, t, cs =>
  match tiOf T t with
  | some ti =>
   match ti.k with
   | .cell (.int .i64) => ∃ z : Int, cs = [.int .i64 z] /\ -9223372036854775808 <= z /\ z <= 9223372036854775807
   | .cell .bool => ∃ b : Bool, cs = [.bool b]
   | .cell .str => ∃ s : ByteArray, cs = [.string s] /\ s.size <= B
   | .slice e =>
    match tiOf T e with
    | some te => 0 < te.size -> ∃ p m c ls, cs = [.slice p m c] /\ Arr u te.size p m ls /\ m <= B /\ m <= c /\ ∀ i, i < m -> Rep T u B n e (ls.getD i [])
    | none => True
   | .struct fs => RepF T (Rep T u B n) fs cs
   | .array m e =>
    match tiOf T e with
    | some te => cs.length = m * te.size /\ ∀ i, i < m -> Rep T u B n e ((cs.drop (i * te.size)).take te.size)
    | none => True
   | _ => True
  | none => True
def seqF (T : List TI) : Nat -> List (Nat × TypeId) -> Nat -> Bool
 | o, [], z => Nat.beq o z
 | o, f :: fs, z =>
  match tiOf T f.2 with
  | some te => Nat.beq f.1 o && seqF T (o + te.size) fs z
  | none => false
def Ho (T : List TI) : Bool := T.all fun ti =>
 match ti.k with
 | .struct fs => seqF T 0 fs ti.size
 | .array m e => match tiOf T e with | some te => Nat.beq ti.size (m * te.size) | none => true
 | _ => true
section
variable {H : Type} {enc : TypeId × Value -> H} {P : Program} {W W' : World} {T : List TI}
theorem BI (hT : TabOk P 0 T) {t : TypeId} {ti : TI} (h : tiOf T t = some ti) : T[t]? = some ti /\ TIok P t ti := by
 unfold tiOf at h
 split at h
 ·next ti' hti =>
  have key : ∀ x : Option TI, (match ti'.k with | .other => none | _ => some ti') = x -> x = some ti -> ti' = ti /\ (ti'.k = .other -> False) := fun x h1 h2 => by
   cases hk : ti'.k <;> rw [hk] at h1 <;> simp only at h1 <;> subst h1 <;> first | exact ⟨Option.some.inj h2, fun h => by cases h⟩ | cases h2
  obtain ⟨rfl, hn⟩ := key _ rfl h
  have := xI hT hti hn
  rw [Nat.zero_add] at this
  exact ⟨hti, this⟩
 ·cases h
theorem vU (hT : TabOk P 0 T) {t : TypeId} {ti : TI} (h : tiOf T t = some ti) : P.cellsOf t = ti.size := by
 obtain ⟨i, h1, h2, _⟩ := (BI hT h).2.info
 unfold Program.cellsOf
 rw [h1]
 exact h2
theorem Et : ∀ (fs : List (Nat × TypeId)) (o z : Nat), seqF T o fs z = true -> o <= z
 | [], o, z, h => by have := Nat.eq_of_beq_eq_true (show Nat.beq o z = true from h); omega
 | f :: fs, o, z, h => by
  unfold seqF at h
  cases hf : tiOf T f.2 with
  | none => rw [hf] at h; cases h
  | some te =>
   rw [hf] at h
   simp only [Bool.and_eq_true] at h
   have := Et fs _ _ h.2
   omega
theorem Ex (hT : TabOk P 0 T) {rep : TypeId -> List Value -> Prop} {full : List Value} : ∀ (fs : List (Nat × TypeId)) (o : Nat), seqF T o fs full.length = true -> (∀ f ∈ fs, rep f.2 ((full.drop f.1).take (P.cellsOf f.2))) -> RepF T rep fs (full.drop o)
 | [], o, hs, _ => by
  have := Nat.eq_of_beq_eq_true (show Nat.beq o full.length = true from hs)
  exact List.drop_eq_nil_of_le (by omega)
 | f :: fs, o, hs, hr => by
  unfold seqF at hs
  unfold RepF
  cases ht : tiOf T f.2 with
  | none => trivial
  | some te =>
   rw [ht] at hs
   rw [Bool.and_eq_true] at hs
   obtain ⟨hs1, hs⟩ := hs
   have hs1 := Nat.eq_of_beq_eq_true hs1
   have h0 := hr f List.mem_cons_self
   rw [vU hT ht, hs1] at h0
   have hle := Et fs _ _ hs
   refine ⟨(full.drop o).take te.size, full.drop (o + te.size), by rw [<- List.drop_drop, List.take_append_drop], by rw [List.length_take, List.length_drop]; omega, h0, ?_⟩
   exact Ex hT fs _ hs fun g hg => hr g (List.mem_cons_of_mem _ hg)
theorem Hm (hs : Ho T = true) {t : TypeId} {ti : TI} (h : T[t]? = some ti) : (match ti.k with
 | .struct fs => seqF T 0 fs ti.size
 | .array m e => match tiOf T e with | some te => Nat.beq ti.size (m * te.size) | none => true
 | _ => true) = true := by
 unfold Ho at hs
 rw [List.all_eq_true] at hs
 exact hs ti (List.mem_of_getElem? h)
theorem Bv (hT : TabOk P 0 T) (hs : Ho T = true) {B : Nat} : ∀ (n : Nat) {t : TypeId} {fuel : Nat} {cs : List Value} {x : DataW H × List MemPlace}, DataW.trod enc P W 0 (fun _ => true) true fuel t cs = some x -> Rows.uptoBulk x.1 <= B -> Rep T W B n t cs
 | 0, _, _, _, _, _, _ => trivial
 | n + 1, t, fuel, cs, x, h, hB => by
  unfold Rep
  cases ht : tiOf T t with
  | none => trivial
  | some ti =>
   obtain ⟨hti, hok⟩ := BI hT ht
   obtain ⟨d, hd, hk⟩ := hok.under
   have hseq := Hm hs hti
   have hsz := vU hT ht
   dsimp only
   cases hkk : ti.k with
   | cell c =>
    rw [hkk] at hk
    cases c with
    | int k =>
     simp only [TKok] at hk
     subst hk
     cases k
     case i64 => exact Fu hd h
     all_goals trivial
    | bool =>
     simp only [TKok] at hk
     subst hk
     obtain ⟨b, hb, _⟩ := DataW.trod_bool hd h
     exact ⟨b, hb⟩
    | str =>
     simp only [TKok] at hk
     subst hk
     obtain ⟨s, h1, h2⟩ := EO hd h
     exact ⟨s, h1, Nat.le_trans h2 hB⟩
    | slice => trivial
    | ptr => trivial
    | func => trivial
   | slice e =>
    rw [hkk] at hk
    simp only [TKok] at hk
    subst hk
    dsimp only
    cases hte : tiOf T e with
    | none => trivial
    | some te =>
     dsimp only
     intro h0
     obtain ⟨p, m, c, ls, h1, h2, h3, h3', h4⟩ := D3 hd (vU hT hte) h0 h
     refine ⟨p, m, c, ls, h1, h2, Nat.le_trans h3 hB, h3', fun i hi => ?_⟩
     obtain ⟨f', y, hy, hb⟩ := h4 i hi
     exact Bv hT hs n hy (Nat.le_trans hb hB)
   | struct fs =>
    rw [hkk] at hk hseq
    obtain ⟨F, rfl, hF, _⟩ := hk
    obtain ⟨hl, hf⟩ := Eb hd h
    dsimp only at hseq ⊢
    rw [<- hsz, <- hl] at hseq
    have := Ex (rep := Rep T W B n) hT fs 0 hseq fun f hf' => by
     rw [<- hF] at hf'
     obtain ⟨g, hg, rfl⟩ := List.mem_map.1 hf'
     obtain ⟨i, hi, hgi⟩ := List.getElem_of_mem hg
     obtain ⟨f', y, hy, hb⟩ := hf i g (by rw [<- hgi]; simp at hi ⊢)
     exact Bv hT hs n hy (Nat.le_trans hb hB)
    rwa [List.drop_zero] at this
   | array m e =>
    rw [hkk] at hk hseq
    simp only [TKok] at hk
    subst hk
    dsimp only at hseq ⊢
    cases hte : tiOf T e with
    | none => trivial
    | some te =>
     rw [hte] at hseq
     have hseq := Nat.eq_of_beq_eq_true hseq
     obtain ⟨hl, hf⟩ := E0 hd h
     dsimp only
     refine ⟨by rw [hl, hsz, hseq], fun i hi => ?_⟩
     obtain ⟨f', y, hy, hb⟩ := hf i hi
     rw [vU hT hte] at hy
     exact Bv hT hs n hy (Nat.le_trans hb hB)
   | ptr e => trivial
   | tuple ts => trivial
   | other => trivial
theorem GS (hT : TabOk P 0 T) {r : Reach} {b0 t : TypeId} {ti : TI} {v : Value} (ht : tiOf T t = some ti) (hk : (match ti.k with | .cell .func => false | .cell _ | .slice _ => true | _ => false) = true) (hval : Value.okWide P W r b0 t v) : v.cells.toList = [v] := by
 obtain ⟨d, hd, hk'⟩ := (BI hT ht).2.under
 cases v with
 | agg cs =>
  exfalso
  unfold Value.okWide at hval
  rw [hd] at hval
  cases hkk : ti.k with
  | cell c =>
   rw [hkk] at hk' hk
   cases c with
   | int k => simp only [TKok] at hk'; subst hk'; simp [Cell.okWide, Cell.ok, hd] at hval
   | bool => simp only [TKok] at hk'; subst hk'; simp [Cell.okWide, Cell.ok, hd] at hval
   | str => simp only [TKok] at hk'; subst hk'; simp [Cell.okWide, Cell.ok, hd] at hval
   | slice => simp only [TKok] at hk'
   | ptr => simp only [TKok] at hk'
   | func => cases hk
  | slice e => rw [hkk] at hk'; simp only [TKok] at hk'; subst hk'; simp [Cell.okWide, Cell.ok, hd] at hval
  | _ => rw [hkk] at hk; cases hk
 | _ => rfl
end
theorem Hl : Ho tab = true := by kernel_rfl
theorem HD {u : World} {B n : Nat} {cs : List Value} (h : Rep tab u B (n + 3) xN cs) :
  ∃ (k p m i : Int) (b : ByteArray), cs = [.int .i64 k, .int .i64 p, .int .i64 m, .int .i64 i, .string b] /\ b.size <= B /\ inK .i64 k /\ inK .i64 p /\ inK .i64 m /\ inK .i64 i := by
 obtain ⟨_, _, rfl, _, ⟨kind, rfl, h1⟩, _, _, rfl, _, ⟨p, rfl, h2⟩, _, _, rfl, _, ⟨m, rfl, h3⟩, _, _, rfl, _, ⟨i, rfl, h4⟩, _, _, rfl, _, ⟨b, rfl, hb⟩, rfl⟩ := h
 exact ⟨kind, p, m, i, b, rfl, hb, h1, h2, h3, h4⟩
def aW (s : Bs) : ByteArray := ByteArray.mk s.toArray
theorem ql {a : ByteArray} {s : Bs} (h : a.data.toList = s) : a = aW s := by
 subst h
 cases a
 simp [aW]
theorem aZ (s : Bs) : (aW s).data.toList = s := by simp [aW]
theorem FU {i : Int} (h0 : 0 <= i) (h1 : i < 100) {u : World} : Spec Tryz.prog eE #[.int .i64 i] u fun e u' => e = .returned (.string (aW (dig i))) /\ Ext u u' := by
 apply iP
 delta eu cnd iI lq
 obtain ⟨n, rfl⟩ : ∃ n : Nat, i = n := ⟨i.toNat, by omega⟩
 simp only [decide_eq_true_eq, decide_eq_false_iff_not]
 have hn : n < 100 := by omega
 refine ⟨fun hl => ⟨by simp only [inK]; omega, by omega, by omega, ?_, ?_, Upd.refl _⟩, fun hl => ⟨by simp only [inK]; omega, by simp only [inK]; omega, by simp only [inK]; omega, by omega, by omega, ?_, ?_, Upd.refl _⟩⟩
 ·show (n : Int) + 1 <= 36
  omega
 ·congr 2
  apply ql
  have hl' : n < 10 := by omega
  clear h0 h1 hl hn
  revert n
  decide +kernel
 ·show (n : Int) * 2 + 2 <= 200
  omega
 ·congr 2
  apply ql
  have hl' : ¬ n < 10 := by omega
  clear h0 h1 hl
  revert n
  decide +kernel
noncomputable def s0 : Ctx := ⟨Tryz.prog, tab, [5], [], [], fns, [], []⟩
set_option maxRecDepth 100000 in
set_option maxHeartbeats 2000000 in
theorem BY {i : Int} (h0 : 0 <= i) (h1 : i < 100) {u : World} {R : Ending -> World -> Prop} (hR : ∀ u1, Ext u u1 -> R (.returned (.string (aW (dig i)))) u1) : wFunc s0 Tryz.f115 [.int .i64 i, .int .i64 10] u R := by
 conv => whnf
 refine ⟨fun _ => ?_, fun hn => by simp at hn⟩
 conv => whnf
 refine ⟨fun _ => ?_, fun hn => by simp at hn; omega⟩
 conv => whnf
 refine ⟨fun _ => ?_, fun hn => by simp at hn; omega⟩
 refine (FU h0 h1).mono fun e u1 ⟨he, hu1⟩ => ?_
 conv => whnf
 refine ⟨_, he, ?_⟩
 exact hR u1 hu1
theorem Bm {i : Int} (h0 : 0 <= i) (h1 : i < 100) {u : World} : Spec Tryz.prog jv #[.int .i64 i, .int .i64 10] u fun e u' => e = .returned (.string (aW (dig i))) /\ Ext u u' :=
 ai (C := s0) (fn := Tryz.f115) (args := [.int .i64 i, .int .i64 10]) (ax _ _ _ _ _) Tryz.func115 rfl (BY h0 h1 fun _ h => ⟨rfl, h⟩)
theorem v7 {i : Int} (h0 : 0 <= i) (h1 : i < 100) {u : World} : Spec Tryz.prog nZ #[.int .i64 i] u fun e u' => e = .returned (.string (aW (dig i))) /\ Ext u u' := by
 apply pI
 delta oy cnd iI lq
 refine Spec.mono (R := fun e u' => e = .returned (.string (aW (dig i))) /\ Ext u u') ?_ fun e u1 ⟨he, hu1⟩ => ⟨_, he, rfl, hu1⟩
 apply ju
 delta fh cnd iI lq
 exact (Bm h0 h1).mono fun e u1 ⟨he, hu1⟩ => ⟨_, he, rfl, hu1⟩
abbrev acV (a : Ac) : List Value := [.int .i64 a.kind, .int .i64 a.p, .int .i64 a.n, .int .i64 a.m, .string (aW a.bytes)]
structure A0 (u : World) (p : Option Addr) (l : List Ac) : Prop where
 arr : Arr u 5 p l.length (l.map acV)
theorem A0.ext {u u' : World} {p : Option Addr} {l : List Ac} (h : A0 u p l) (hu : Ext u u') : A0 u' p l := ⟨h.arr.ext hu⟩
theorem A0.at {u : World} {p : Option Addr} {l : List Ac} (h : A0 u p l) {i : Nat} (hi : i < l.length) (d : Ac) : ∃ b o, p = some ⟨b, o, none⟩ /\ Rd u b (o + i * 5) (acV (l.getD i d)) := by
 obtain ⟨b, o, hp, hr⟩ := h.arr.at hi (by decide)
 refine ⟨b, o, hp, ?_⟩
 have : (l.map acV).getD i [] = acV (l.getD i d) := by simp [List.getD_eq_getElem?_getD, hi]
 rwa [this] at hr
theorem Gc {u : World} {B n : Nat} {cs : List Value} (h : Rep tab u B (n + 4) lZ cs) : ∃ l p c, cs = [.slice p l.length c] /\ A0 u p l /\ l.length <= B /\ ∀ a ∈ l, a.bytes.length <= B /\ inK .i64 a.kind /\ inK .i64 a.p /\ inK .i64 a.n /\ inK .i64 a.m := by
 obtain ⟨p, m, c, ls, rfl, hA, hm, hmc, hels⟩ := h (by decide)
 have hl := hA.len
 have key : ∀ (xs : List (List Value)), (∀ y ∈ xs, Rep tab u B (n + 3) xN y) -> ∃ l : List Ac, l.map acV = xs /\ ∀ a ∈ l, a.bytes.length <= B /\ inK .i64 a.kind /\ inK .i64 a.p /\ inK .i64 a.n /\ inK .i64 a.m := fun xs => by
  induction xs with
  | nil => exact fun _ => ⟨[], rfl, by simp⟩
  | cons y xs ih =>
   intro hy
   obtain ⟨l, h1, h2⟩ := ih fun z hz => hy z (List.mem_cons_of_mem _ hz)
   obtain ⟨k, q, m', i, b, rfl, hb, k1, k2, k3, k4⟩ := HD (hy y List.mem_cons_self)
   refine ⟨⟨k, q, m', i, b.data.toList⟩ :: l, ?_, fun a ha => ?_⟩
   ·rw [List.map_cons, h1]
    have : b = aW b.data.toList := ql rfl
    show [Value.int .i64 k, .int .i64 q, .int .i64 m', .int .i64 i, .string (aW b.data.toList)] :: xs = _
    rw [<- this]
   ·rcases List.mem_cons.1 ha with rfl | ha
    ·exact ⟨by have : b.data.toList.length = b.size := rfl; show b.data.toList.length <= B; omega, k1, k2, k3, k4⟩
    ·exact h2 a ha
 obtain ⟨l, h1, h2⟩ := key ls fun y hy => by
  obtain ⟨i, hi, rfl⟩ := List.getElem_of_mem hy
  have := hels i (by omega)
  rwa [List.getD_eq_getElem?_getD, List.getElem?_eq_getElem hi] at this
 have hlen : l.length = m := by rw [<- hl, <- h1, List.length_map]
 subst hlen
 exact ⟨l, p, c, rfl, ⟨by rw [h1]; exact hA⟩, hm, h2⟩
structure Iz (u : World) (r : Gr × Int) (e : Ending) (u' : World) : Prop where
 ex : ∃ p c, e = .returned (.tuple #[GrV r.1 p r.1.cells.length c, .int .i64 r.2]) /\ Cells u' p r.1.cells /\ (r.2 = 0 -> r.1.cells.length <= 240) /\ (r.2 = 0 -> r.1.cells.length <= c /\ ∀ k, At p k -> u.heap.size <= k)
 ext : Ext u u'
theorem GZ {u : World} {gb : Nat} {g : Gr} {b o c : Nat} (h : Blk u gb (grV g (some ⟨b, o, none⟩) g.cells.length c)) (hc : g.cells.length <= c) (hg : ao g) {r : Int} (h0 : 0 <= r) (h1 : r < g.high) :
  Spec Tryz.prog lL #[.pointer (some ⟨gb, 0, none⟩), .int .i64 r] u fun e u' => ∃ c', e = .returned (.slice (some ⟨b, o + (r * g.wide).toNat * 4, none⟩) g.wide.toNat c') /\ Ext u u' := by
 apply my
 delta oW cnd iI lq
 have hu : Ext u (af u) := (Upd.refl u).drew
 have f0 := aB hg h0 (by omega)
 have f1 := aB hg (r := r + 1) (by omega) (by omega)
 have w1 := hg.w1
 have hfew := aK hg
 have e := bQ r g.wide
 rw [e] at f1
 refine ⟨_, _, _, rfl, (h.ext hu).dL (n := 1) rfl, _, rfl, (h.ext hu).dL (n := 1) rfl, by simp only [inK]; omega, by have := hg.h2; simp only [inK]; omega, _, rfl, (h.ext hu).dL (n := 1) rfl, ?_⟩
 rw [e]
 refine ⟨by simp only [inK]; omega, f0.1, by omega, by omega, c - (r * g.wide).toNat, ?_, hu⟩
 rw [if_neg (by omega), show (r * g.wide + g.wide).toNat - (r * g.wide).toNat = g.wide.toNat by omega, j9]
structure Iv (w : World) (ob b c : Nat) (g out : Gr) (r : Nat) (v : World) : Prop where
 ex : ∃ l, GB v ob { out with cells := l } b c /\ l.length = out.cells.length /\ ∀ i : Nat, i < l.length -> cg l i = if i / out.wide.toNat < r /\ i % out.wide.toNat < g.wide.toNat then cg g.cells (i / out.wide.toNat * g.wide.toNat + i % out.wide.toNat) else .z
 upd : Upd (UB ob b) w v
theorem m7 {u : World} {g : Gr} {p : Option Addr} (h : Cells u p g.cells) {c : Nat} (hcap : g.cells.length <= c) (hl : g.cells.length <= 100000000) (wide high : Int) :
  Spec Tryz.prog pL #[GrV g p g.cells.length c, .int .i64 wide, .int .i64 high] u (Iz u (bM g wide high)) := by
 apply qv
 delta oV wi zQ tv cnd iI lq
 simp only [decide_eq_true_eq, decide_eq_false_iff_not, Bool.not_eq_true', Bool.not_eq_false', true_and]
 have B0 := Blk.fresh u (grV g p g.cells.length c) bU
 have e0 : Ext u (ab u (.cells (grV g p g.cells.length c).toArray bU)) := (Upd.refl u).alloc _
 have e1 : Ext (ab u (.cells (grV g p g.cells.length c).toArray bU)) (ab (ab u (.cells (grV g p g.cells.length c).toArray bU)) hole) := (Upd.refl _).alloc _
 have hu := e0.ext e1
 have hs0 : (ab u (.cells (grV g p g.cells.length c).toArray bU)).heap.size = u.heap.size + 1 := size_alloc _ _
 refine ⟨_, _, _, _, _, _, _, _, _, _, _, rfl, (B0.ext e1).dL (n := 9) rfl, (o9 (h.ext hu) c (by omega)).mono fun r u1 ⟨hr, hu1⟩ => ⟨_, hr, fun hb => ?_, fun hb => ?_⟩⟩
 ·have hd : bM g wide high = (g, 1) := by unfold bM; rw [if_pos hb]
  rw [hd]
  exact ⟨_, _, _, _, _, _, _, _, _, _, _, rfl, ((B0.ext e1).ext hu1).dL (n := 9) rfl, ⟨p, c, rfl, h.ext (hu.ext hu1), fun h => (by cases h), fun h => (by cases h)⟩, hu.ext hu1⟩
 have hg := bH.1 hb
 have x1 := hu.ext hu1
 have B1 := (B0.ext e1).ext hu1
 have hs1 : u.heap.size + 1 <= u1.heap.size := by have := (e1.ext hu1).size; omega
 refine (lP wide high).mono fun e u2 ⟨⟨b, he, ho, hb2⟩, hu2⟩ => ⟨_, _, _, _, _, _, _, _, _, _, _, he, ?_⟩
 have ng := dr wide high
 have hres : bM g wide high = (⟨(aO wide high).wide, (aO wide high).high, dt g.wide.toNat (aO wide high).wide.toNat (aO wide high).high.toNat g.high.toNat g.cells, min g.row ((aO wide high).high - 1), min g.col ((aO wide high).wide - 1), g.ink, g.bold, 0, (aO wide high).high⟩, 0) := by
  unfold bM
  rw [if_neg (by rw [hb]; simp)]
  rfl
 have hrest : (aO wide high).row = 0 /\ (aO wide high).col = 0 /\ (aO wide high).ink = 0 /\ (aO wide high).bold = false /\ (aO wide high).top = 0 /\ (aO wide high).aA = (aO wide high).high /\ (aO wide high).cells = List.replicate (aO wide high).cells.length .z := ⟨rfl, rfl, rfl, rfl, rfl, rfl, by simp [aO]⟩
 rw [hres]
 generalize aO wide high = out at ng he ho hrest
 obtain ⟨q1, q2, q3, q4, q5, q6, q7⟩ := hrest
 have hs2 := hu2.size
 have B2 := B1.ext hu2
 have F0 := Blk.fresh u2 [.int .i64 0, .int .i64 0, .slice none 0 0, .int .i64 0, .int .i64 0, .int .i64 0, .bool false, .int .i64 0, .int .i64 0] bU
 have F1 := F0.putAt (o := 0) (ys := grV out (some ⟨b, 0, none⟩) out.cells.length out.cells.length) (r := grV out (some ⟨b, 0, none⟩) out.cells.length out.cells.length) rfl
 have hfl : Ext u2 (ae (ab u2 (.cells ([.int .i64 0, .int .i64 0, .slice none 0 0, .int .i64 0, .int .i64 0, .int .i64 0, .bool false, .int .i64 0, .int .i64 0] : List Value).toArray bU)) u2.heap.size 0 (grV out (some ⟨b, 0, none⟩) out.cells.length out.cells.length)) := ((Upd.refl u2).alloc _).put (fun h => by omega) _ _
 have hob := ho.lt
 have S0 : GB (ae (ab u2 (.cells ([.int .i64 0, .int .i64 0, .slice none 0 0, .int .i64 0, .int .i64 0, .int .i64 0, .bool false, .int .i64 0, .int .i64 0] : List Value).toArray bU)) u2.heap.size 0 (grV out (some ⟨b, 0, none⟩) out.cells.length out.cells.length)) u2.heap.size out b out.cells.length := ⟨F1, ho.ext hfl, by omega⟩
 have B3 := B2.ext hfl
 have x2 := (x1.ext hu2).ext hfl
 refine ⟨rfl, F0.wr (by simp), ?_⟩
 generalize hw0 : ae (ab u2 (.cells ([.int .i64 0, .int .i64 0, .slice none 0 0, .int .i64 0, .int .i64 0, .int .i64 0, .bool false, .int .i64 0, .int .i64 0] : List Value).toArray bU)) u2.heap.size 0 (grV out (some ⟨b, 0, none⟩) out.cells.length out.cells.length) = w0 at S0 B3 x2
 have gw1 := hg.w1
 have gw2 := hg.w2
 have gh1 := hg.h1
 have gh2 := hg.h2
 have ow1 := ng.w1
 have ow2 := ng.w2
 have oh1 := ng.h1
 have oh2 := ng.h2
 have ocl := kV ng
 have gcl := kV hg
 have hbig : Upd (UB u2.heap.size b) u w0 := x2.any
 have away : ∀ {v : World}, Upd (UB u2.heap.size b) w0 v -> Blk v u.heap.size (grV g p g.cells.length c) /\ Cells v p g.cells /\ Ext u v := fun {v} hv => by
  have E : Ext u v := (x2.trans hv fun k hk hh => by rcases hh with rfl | rfl <;> omega).mono fun _ _ h => h
  exact ⟨B3.upd hv fun hh => by rcases hh with hh | hh <;> omega, h.ext E, E⟩
 refine ⟨_, rfl, B3.dL (n := 1) rfl, _, rfl, S0.blk.dL (n := 1) rfl, fun r v => 0 <= r /\ r <= min g.high out.high /\ Iv w0 u2.heap.size b out.cells.length g out r.toNat v, fun r _ => (min g.high out.high - r).toNat, ⟨Int.le_refl _, by omega, ⟨⟨out.cells, S0, rfl, fun i hi => by
  rw [if_neg (by intro hh; exact Nat.not_lt_zero _ hh.1), q7, Ey]⟩, Upd.refl _⟩⟩, ?_⟩
 rintro r v ⟨r0, r1, ⟨l, G, hl2, hcg⟩, hv⟩
 obtain ⟨BV, CV, EV⟩ := away hv
 refine ⟨fun hr => ?_, fun hr => ?_⟩
 ·have Gg : ao { out with cells := l } := ⟨ng.w1, ng.w2, ng.h1, ng.h2, by show (l.length : Int) = _; rw [hl2]; exact ng.len, ng.r1, ng.r2, ng.c1, ng.c2, ng.i1, ng.i2, ng.t1, ng.t2, ng.b2, fun c hc => by
   obtain ⟨i, hi, rfl⟩ := uo hc
   rw [hcg i hi]
   split
   ·exact cN.cg hg.all _
   ·rfl⟩
  refine (tW G Gg (r := r) r0 (by show r < out.high; omega)).mono fun e u3 ⟨c3, he, hu3⟩ => ⟨_, _, _, he, ?_⟩
  obtain ⟨bb, oo, hp, _⟩ := h.at (i := 0) (by have := hg.len; have := Int.mul_pos (show (0 : Int) < g.wide by omega) (show (0 : Int) < g.high by omega); omega)
  subst hp
  refine (GZ (BV.ext hu3) hcap hg (r := r) r0 (by omega)).mono fun e u4 ⟨c4, he, hu4⟩ => ⟨_, _, _, he, ?_⟩
  have f0 := aB hg r0 (by omega)
  have f1 := aB hg (r := r + 1) (by omega) (by omega)
  have f2 := aB ng r0 (by omega)
  have f3 := aB ng (r := r + 1) (by omega) (by omega)
  rw [bQ] at f1 f3
  have m0 : min g.wide.toNat out.wide.toNat <= g.wide.toNat := Nat.min_le_left _ _
  have m1 : min g.wide.toNat out.wide.toNat <= out.wide.toNat := Nat.min_le_right _ _
  have hml : ((g.cells.drop (r * g.wide).toNat).take (min g.wide.toNat out.wide.toNat)).length = min g.wide.toNat out.wide.toNat := by
   rw [List.length_take, List.length_drop]; omega
  have src := ((CV.ext hu3).ext hu4).sub (i := (r * g.wide).toNat) (k := min g.wide.toNat out.wide.toNat) (by omega)
  have GG := (G.ext hu3).ext hu4
  have put := GG.cells (i := (r * out.wide).toNat) (m := (g.cells.drop (r * g.wide).toNat).take (min g.wide.toNat out.wide.toNat)) (o := 0 + (r * out.wide).toNat * 4) (by show _ <= l.length; rw [hml, hl2]; omega) (by omega)
  refine ⟨aE ((g.cells.drop (r * g.wide).toNat).take (min g.wide.toNat out.wide.toNat)), by rw [bq, hml], src.aH, (fQ _ _).2 trivial, ⟨fun _ => rfl, GG.own.wr (by show 0 + (r * out.wide).toNat * 4 + 0 + min g.wide.toNat out.wide.toNat * 4 <= l.length * 4; omega)⟩, by simp only [inK]; omega, ⟨by omega, by omega, ⟨_, put, by rw [cw (by show _ <= l.length; rw [hml, hl2]; omega)]; exact hl2, fun i hi => ?_⟩, UB.Hf ((hv.ext hu3).ext hu4) _ _⟩, by first | omega | (dsimp only; omega)⟩
  rw [cw (by show _ <= l.length; rw [hml, hl2]; omega)] at hi
  have hi : i < l.length := hi
  show cg (fH l _ _) i = _
  rw [mo (by rw [hml, hl2]; omega), hml]
  obtain ⟨q, s, hs, he2, hq, hm⟩ := ux (i := i) (w := out.wide.toNat) (by omega)
  rw [hq, hm]
  have er : (r * out.wide).toNat = r.toNat * out.wide.toNat := f2.2.2.2
  have eg : (r * g.wide).toNat = r.toNat * g.wide.toNat := f0.2.2.2
  have hr1 : (r + 1).toNat = r.toNat + 1 := by omega
  by_cases hqr : q = r.toNat
  ·subst hqr
   by_cases hsw : s < g.wide.toNat
   ·rw [if_pos (by omega), if_pos ⟨by omega, hsw⟩, tu (by omega), tQ]
    congr 1
    omega
   ·rw [if_neg (by omega), if_neg (by omega), hcg i hi, hq, if_neg (by omega)]
  ·have hout : ¬ ((r * out.wide).toNat <= i /\ i < (r * out.wide).toNat + min g.wide.toNat out.wide.toNat) := by
    rw [er, he2]
    rcases Nat.lt_or_ge q r.toNat with h | h
    ·have := ph hs h
     omega
    ·have := ph (w := out.wide.toNat) (s := 0) (q := r.toNat) (to := q) (by omega) (by omega)
     have e2 : (r.toNat + 1) * out.wide.toNat <= q * out.wide.toNat := Nat.mul_le_mul_right _ (by omega)
     rw [Nat.add_mul, Nat.one_mul] at e2
     omega
   rw [if_neg hout, hcg i hi, hq, hm]
   by_cases hlt : q < r.toNat /\ s < g.wide.toNat
   ·rw [if_pos hlt, if_pos ⟨by omega, hlt.2⟩]
   ·rw [if_neg hlt, if_neg (fun hh => hlt ⟨by omega, hh.2⟩)]
 ·have hlast : l = dt g.wide.toNat out.wide.toNat out.high.toNat g.high.toNat g.cells := by
   unfold dt
   refine gP (by rw [nB, hl2, ocl, Nat.mul_comm]) fun i hi => ?_
   rw [rM (by rw [Nat.mul_comm, <- ocl, <- hl2]; exact hi), hcg i hi]
   have hrow : i / out.wide.toNat < out.high.toNat := by
    rw [Nat.div_lt_iff_lt_mul (by omega)]
    omega
   congr 1
   apply propext
   constructor
   ·rintro ⟨a, b⟩; exact ⟨by omega, b⟩
   ·rintro ⟨a, b⟩; exact ⟨by omega, b⟩
  have G1 := G.put (g' := { out with cells := l, row := min g.row (out.high - 1) }) (o := 0 + 3) (ys := [.int .i64 (min g.row (out.high - 1))]) rfl rfl
  have G2 := G1.put (g' := { out with cells := l, row := min g.row (out.high - 1), col := min g.col (out.wide - 1) }) (o := 0 + 4) (ys := [.int .i64 (min g.col (out.wide - 1))]) rfl rfl
  have G3 := G2.put (g' := { out with cells := l, row := min g.row (out.high - 1), col := min g.col (out.wide - 1), ink := g.ink }) (o := 0 + 5) (ys := [.int .i64 g.ink]) rfl rfl
  have G4 := G3.put (g' := { out with cells := l, row := min g.row (out.high - 1), col := min g.col (out.wide - 1), ink := g.ink, bold := g.bold }) (o := 0 + 6) (ys := [.bool g.bold]) rfl rfl
  have hv2 := UB.dy (UB.dy hv (0 + 3) [.int .i64 (min g.row (out.high - 1))]) (0 + 4) [.int .i64 (min g.col (out.wide - 1))]
  have hv4 := UB.dy (UB.dy hv2 (0 + 5) [.int .i64 g.ink]) (0 + 6) [.bool g.bold]
  have BV2 := (away hv2).1
  refine ⟨_, rfl, BV.dL (n := 1) rfl, _, rfl, G.blk.dL (n := 1) rfl, by simp only [inK]; omega, _, rfl, BV.dL (n := 1) rfl, _, rfl, G.blk.dL (n := 1) rfl, by simp only [inK]; omega, rfl, G.wr (by omega), rfl, G1.wr (by omega), _, rfl, BV2.dL (n := 1) rfl, _, rfl, BV2.dL (n := 1) rfl, rfl, G2.wr (by omega), rfl, G3.wr (by omega), _, _, _, _, _, _, _, _, _, _, _, rfl, G4.blk.dL (n := 9) rfl, ?_, (away hv4).2.2⟩
  rw [q5, q6]
  refine ⟨some ⟨b, 0, none⟩, out.cells.length, ?_, ?_, fun _ => ?_, fun _ => ⟨?_, fun k hk => ?_⟩⟩
  ·rw [<- hlast]
  ·rw [<- hlast]; exact G4.own.cells
  ·show (dt _ _ _ _ _).length <= 240
   rw [<- hlast, hl2]
   exact aK ng
  ·show (dt _ _ _ _ _).length <= _
   rw [<- hlast, hl2]
   exact Nat.le_refl _
  ·have := ar hk
   simp only at this
   omega
theorem Cr {u : World} {g : Gr} {p : Option Addr} (h : Cells u p g.cells) (c : Nat) (hl : g.cells.length <= 10000000) {es : List Ev} {ep : Option Addr} {ok : Nat -> Prop} (he : EvL u ok ep es.length es) (ec : Nat) (hen : es.length <= 10000000) (hfew : ∀ e ∈ es, e.ps.length <= 10000000 /\ e.pl.size <= 10000000) :
  Spec Tryz.prog u9 #[GrV g p g.cells.length c, .slice ep es.length ec] u (fun e u' => (∃ p' c', e = .returned (.tuple #[GrV (allG g es).1 p' (allG g es).1.cells.length c', .int .i64 (allG g es).2]) /\ Cells u' p' (allG g es).1.cells /\ (∀ k, At p' k -> At p k \/ u.heap.size <= k) /\ (g.cells.length <= c -> (allG g es).1.cells.length <= c')) /\ Ext u u') := by
 apply tV
 delta vg cnd iI lq
 simp only [decide_eq_true_eq, decide_eq_false_iff_not, Bool.not_eq_true', Bool.not_eq_false', true_and]
 have hu : Ext u (ab (ab u hole) hole) := ((Upd.refl u).alloc _).alloc _
 refine ⟨fun x w hi pp n cp r cl ik bo t bt _ _ _ _ _ _ _ _ _ _ _ v => ∃ l, Cells v pp l /\ (∀ k, At pp k -> At p k \/ u.heap.size <= k) /\ (g.cells.length <= c -> l.length <= cp) /\ n = l.length /\ l.length <= 10000000 /\ Ext u v /\ 0 <= x /\ x <= es.length /\ allG g es = allG ⟨w, hi, l, r, cl, ik, bo, t, bt⟩ (es.drop x.toNat), fun x _ _ _ _ _ _ _ _ _ _ _ _ _ _ _ _ _ _ _ _ _ _ _ => (es.length - x).toNat,
  ⟨g.cells, h.ext hu, fun _ hk => .inl hk, fun h => h, rfl, hl, hu, Int.le_refl _, by omega, by simp⟩, ?_⟩
 rintro x w hi pp n cp r cl ik bo t bt _ _ _ _ _ _ _ _ _ _ _ v ⟨l, hc, hfar, hcap, rfl, hll, hv, h0, h1, heq⟩
 refine ⟨fun hx => ?_, fun hx => ?_⟩
 ·obtain ⟨b, o, q, m, c2, hp, hr, hn⟩ := (he.ext hv).at (i := x.toNat) (by omega)
  have hmem : es.getD x.toNat .none ∈ es := by
   rw [List.getD_eq_getElem?_getD, List.getElem?_eq_getElem (by omega)]
   exact List.getElem_mem _
  have hdrop : es.drop x.toNat = es.getD x.toNat .none :: es.drop (x.toNat + 1) := by
   rw [List.drop_eq_getElem_cons (by omega), List.getD_eq_getElem?_getD, List.getElem?_eq_getElem (by omega)]
   rfl
  rw [hdrop] at heq
  have hf := hfew _ hmem
  generalize es.getD x.toNat .none = ev at hr hn heq hf
  refine ⟨b, o, hp, h0, hx, _, _, _, _, _, _, rfl, hr, ?_⟩
  have hh : Ext v (ab v hole) := (Upd.refl _).alloc _
  have hm := hn.2
  refine (HY (g := ⟨w, hi, l, r, cl, ik, bo, t, bt⟩) (hc.ext hh) cp (by show l.length <= _; omega) ev (ec := c2) (hn.ext hh) (by omega) (by omega)).mono fun e u2 ⟨⟨p', c', he2, hc2, hf1, hf2, hf3⟩, hu2⟩ => ⟨_, _, _, _, _, _, _, _, _, _, _, _, he2, fun hne => ?_, fun hz => ?_⟩
  all_goals
   have far : ∀ k, At p' k -> At p k \/ u.heap.size <= k := fun k hk => (hf1 k hk).elim (hfar k) fun h7 => .inr (by have := hv.size; have : (ab v hole).heap.size = v.heap.size + 1 := size_alloc _ _; omega)
  ·have e2 : allG ⟨w, hi, l, r, cl, ik, bo, t, bt⟩ (ev :: es.drop (x.toNat + 1)) = doG ⟨w, hi, l, r, cl, ik, bo, t, bt⟩ ev := by
    unfold allG
    rw [if_neg hne]
   rw [heq, e2]
   refine ⟨⟨p', c', rfl, hc2, far, fun hcc => ?_⟩, (hv.ext hh).ext hu2⟩
   have hdo : (doG ⟨w, hi, l, r, cl, ik, bo, t, bt⟩ ev).1.cells = l := by rw [HP hne]
   rw [hdo, (hf2 hne).2]
   exact hcap hcc
  ·have e2 : allG ⟨w, hi, l, r, cl, ik, bo, t, bt⟩ (ev :: es.drop (x.toNat + 1)) = allG (doG ⟨w, hi, l, r, cl, ik, bo, t, bt⟩ ev).1 (es.drop (x.toNat + 1)) := by
    conv => lhs; unfold allG
    rw [if_pos hz]
   have hg2 := Hc hz
   have hg3 := aK (DK hg2 ev).1
   refine ⟨by simp only [inK]; omega, ⟨_, hc2, far, fun _ => hf3 hz, rfl, by omega, (hv.ext hh).ext hu2, by omega, by omega, ?_⟩, by first | omega | (dsimp only; omega)⟩
   rw [heq, e2, show (x + 1).toNat = x.toNat + 1 by omega]
 ·rw [List.drop_eq_nil_of_le (by omega)] at heq
  rw [heq]
  exact ⟨⟨pp, cp, rfl, hc, hfar, hcap⟩, hv⟩
theorem Cd (s_p : Option Addr) (s_n s_c : Nat) {u : World} {l : List Int} (h : bY u s_p s_n l) (hn : s_n <= 1000) :
  Spec Tryz.prog fL #[.slice s_p s_n s_c] u fun e u' => ∃ p c, e = .returned (.slice p s_n c) /\ Own u' 1 p s_n c (bg l) /\ Ext u u' /\ ∀ k, At p k -> u.heap.size <= k := by
 apply jF
 delta fY cnd iI lq
 refine ⟨fun hp => ?_, fun hp => ?_⟩
 ·cases s_p with
  | some a => cases hp
  | none =>
   obtain ⟨h, hl⟩ := h
   have : l = [] := by
    have h2 : (bg l).length = 0 := by rw [show bg l = [] from h]; rfl
    rw [bF] at h2; exact List.length_eq_zero_iff.1 h2
   subst this
   simp only [List.length_nil] at hl
   subst hl
   exact ⟨none, 0, rfl, Own.nil _ _, Upd.refl _, fun k hk => by obtain ⟨_, hk, _⟩ := hk; cases hk⟩
 ·have hu : Ext u (ab u (.cells #[] aF)) := (Upd.refl u).alloc _
  have h' := h.ext hu
  have hf : Own (ab u (.cells #[] aF)) 1 (some ⟨u.heap.size, 0, none⟩) 0 0 [] := Own.fresh u (cs := []) rfl
  refine ⟨[], bg l, rfl, hf.aH, by rw [bF, h'.2]; omega, h'.1, by decide, by omega, iY l, fun hc => hf.wrs (by omega), fun p cap u1 hr => ?_⟩
  obtain ⟨h1, h2, h3⟩ := hf.app hr rfl hf.aH (by rw [bF, h'.2]; omega) rfl
  simp only [Nat.zero_add, List.nil_append] at h1 ⊢
  refine ⟨p, cap, rfl, h1, hu.trans h2 fun k hk hat => ?_, fun k hk => ?_⟩
  ·obtain ⟨a, ha, rfl⟩ := hat
   cases ha
   simp at hk
  ·rcases h3 with ⟨rfl, _⟩ | ⟨rfl, _⟩
   ·obtain ⟨a, ha, rfl⟩ := hk; cases ha; exact Nat.le_refl _
   ·obtain ⟨a, ha, rfl⟩ := hk; cases ha; exact Nat.le_trans (Nat.le_succ _) (Nat.le_of_eq (size_alloc _ _).symm)
theorem GU (pr : Pr) (s_p : Option Addr) (s_n s_c : Nat) {u : World} (h : bY u s_p s_n pr.ps) :
  Spec Tryz.prog qF #[PrV pr s_p s_n s_c] u fun e u' => ∃ g, e = .returned (.bool g) /\ (g = true ↔ bB pr) /\ Ext u u' := by
 apply rP
 delta qM tE cnd iI lq
 obtain ⟨a, ps, pl, lg⟩ := pr
 simp only at h
 have hlen := h.2
 have hu : Ext u (ab u hole) := (Upd.refl u).alloc _
 have no : ∀ {u1 : World}, Ext u u1 -> ¬ bB ⟨a, ps, pl, lg⟩ -> ∃ g, Ending.returned (.bool false) = .returned (.bool g) /\ (g = true ↔ bB ⟨a, ps, pl, lg⟩) /\ Ext u u1 := fun hu1 hn => ⟨false, rfl, by simp [hn], hu1⟩
 simp only [decide_eq_false_iff_not, decide_eq_true_eq, true_and, vp]
 refine ⟨fun h1 => no hu fun g => by have := g.lo; simp only at this; omega, fun h1 => ⟨fun h2 => no hu fun g => by have := g.hi; simp only at this; omega, fun h2 => ⟨fun h3 => no hu fun g => by have := g.len; simp only at this; omega, fun h3 => ⟨fun h4 => no hu fun g => by have := g.pay; simp only at this; omega, fun h4 => ?_⟩⟩⟩⟩
 refine ⟨fun x u1 => Ext u u1 /\ 0 <= x /\ x <= s_n /\ ∀ i : Nat, i < x.toNat -> nT (ps.getD i 0), fun x _ => (s_n - x).toNat, ⟨hu, by omega, by omega, by omega⟩, fun x u1 ⟨hu1, h0, hx, hi⟩ => ⟨fun hlt => ?_, fun hlt => ?_⟩⟩
 ·obtain ⟨b, o, hp, hr⟩ := (h.ext hu1).at (i := x.toNat) (by omega)
  have bad : ¬ nT (ps.getD x.toNat 0) -> ¬ bB ⟨a, ps, pl, lg⟩ := fun hb g => hb (g.iG _ (by
   show ps.getD x.toNat 0 ∈ ps
   rw [List.getD_eq_getElem?_getD, List.getElem?_eq_getElem (by omega)]
   exact List.getElem_mem _))
  refine ⟨b, o, hp, h0, hlt, _, rfl, hr, fun h5 => no hu1 (bad fun h => by have := h.1; omega), fun h5 => ⟨fun h6 => no hu1 (bad fun h => by have := h.2; omega), fun h6 => ⟨by simp only [inK]; omega, ⟨hu1, by omega, by omega, fun i hi' => ?_⟩, by first | omega | (dsimp only; omega)⟩⟩⟩
  rcases (by omega : i < x.toNat \/ i = x.toNat) with h | rfl
  ·exact hi i h
  ·exact ⟨by omega, by omega⟩
 ·have hnums : ∀ n ∈ ps, nT n := fun n hn => by
   obtain ⟨i, hi2, rfl⟩ := List.getElem_of_mem hn
   have := hi i (by omega)
   simpa [List.getD_eq_getElem?_getD, List.getElem?_eq_getElem hi2] using this
  have key : (bB ⟨a, ps, pl, lg⟩) ↔ (a = 2 ↔ 0 < ps.length) /\ (a = 3 \/ a = 4 \/ (pl = au /\ lg = false)) := ⟨fun g => ⟨g.cmd, g.rest⟩, fun g => ⟨by simp only; omega, by simp only; omega, by simp only; omega, by simp only; omega, hnums, g.1, g.2⟩⟩
  have hcmd : (decide (a = 2) == decide ((0 : Int) < (s_n : Nat))) = true ↔ (a = 2 ↔ 0 < ps.length) := by
   rw [beq_iff_eq, decide_eq_decide]
   omega
  have hcmd' : (decide (a = 2) == decide ((0 : Int) < (s_n : Nat))) = false ↔ ¬ (a = 2 ↔ 0 < ps.length) := by rw [<- hcmd, Bool.not_eq_true]
  have yes : (bB ⟨a, ps, pl, lg⟩) -> ∃ g, Ending.returned (.bool true) = .returned (.bool g) /\ (g = true ↔ bB ⟨a, ps, pl, lg⟩) /\ Ext u u1 := fun hg => ⟨true, rfl, ⟨fun _ => hg, fun _ => rfl⟩, hu1⟩
  refine ⟨fun h3 => ⟨fun h5 => yes (key.2 ⟨hcmd.1 h5, .inl h3⟩), fun h5 => no hu1 fun g => hcmd'.1 h5 (key.1 g).1⟩, fun h3 => ⟨fun h5 => ⟨fun h6 => yes (key.2 ⟨hcmd.1 h5, .inr (.inl h6)⟩), fun h6 => ⟨fun h7 => ?_, fun h7 => no hu1 fun g => ?_⟩⟩, fun h5 => no hu1 fun g => hcmd'.1 h5 (key.1 g).1⟩⟩
  ·refine ⟨!lg, rfl, ?_, hu1⟩
   rw [key]
   simp only [Bool.not_eq_true', h7, hcmd.1 h5, true_and, h3, h6, false_or]
  ·rcases (key.1 g).2 with h | h | h
   ·exact h3 h
   ·exact h6 h
   ·exact h7 h.1
theorem DL (pr : Pr) (pp : Option Addr) (pn pc : Nat) (c : Int) {u : World} (h : Own u 1 pp pn pc (bg pr.ps)) (hg : bB pr) (hat : pr.at_ = 2) (h0 : 0 <= c) (h1 : c <= 255) :
  Spec Tryz.prog mA #[PrV pr pp pn pc, .int .i64 c] u (bu u pp (lA pr c)) := by
 apply oO
 delta m6 z9 Ar Aq cnd iI lq
 have hl := h.Dn
 have hpos : 0 < pr.ps.length := hg.cmd.1 hat
 have hlen := hg.len
 have hu : Ext u (ab (ab (ab u hole) hole) hole) := (((Upd.refl u).alloc _).alloc _).alloc _
 have hud := hu.drew
 refine ⟨by simp only [inK]; omega, ?_⟩
 by_cases hd : 48 <= c /\ c <= 57
 ·have e := h.ext hud
  have hlast : nT (pr.ps.getD (pr.ps.length - 1) 0) := hg.iG _ (CH 0 (by omega))
  obtain ⟨hl0, hl1⟩ := hlast
  have hi : (((pn : Nat) : Int) - 1).toNat = pr.ps.length - 1 := by omega
  simp only [hd.1, hd.2, decide_true, true_implies, Bool.true_eq_false, false_implies, and_true]
  obtain ⟨b, o, hp, hr⟩ := e.iG.at (i := (((pn : Nat) : Int) - 1).toNat) (by omega)
  have ho : o = 0 := by
   rcases h with ⟨h, _⟩ | ⟨_, _, _, h, _⟩
   ·rw [h] at hp; cases hp
   ·rw [h] at hp; cases hp; rfl
  subst ho
  subst hp
  refine ⟨b, 0, rfl, by omega, by omega, _, rfl, hr, by simp only [inK, hi]; omega, by simp only [inK, hi]; omega, by simp only [inK, hi]; omega, b, 0, rfl, by omega, by omega, rfl, ?_, ?_⟩
  ·have := e.wrs (o := (((pn : Nat) : Int) - 1).toNat * 1) (m := 1) (by have := h.le; omega)
   exact this.2
  ·have hcmd : lA pr c = ({ pr with ps := cW pr.ps c }, .none) := by simp only [lA]; rw [if_pos hd]
   rw [hcmd]
   have hps : bg pr.ps = bg (pr.ps.take (pr.ps.length - 1)) ++ [.int .i64 (pr.ps.getD (pr.ps.length - 1) 0)] ++ [] := by
    rw [List.append_nil]
    unfold bg
    apply List.ext_getElem
    ·simp; omega
    ·intro i h1 h2
     simp only [List.length_map] at h1
     by_cases hi : i = pr.ps.length - 1
     ·subst hi
      simp [List.getD_eq_getElem?_getD, List.getElem?_eq_getElem h1]
     ·rw [List.getElem_append_left (by simp; omega)]
      simp
   have e2 := e
   rw [hps] at e2
   have e3 := e2.put (ys := [.int .i64 (min (((10 * (pr.ps.getD (((pn : Nat) : Int) - 1).toNat 0)) + c) - 48) 999)]) (o := 0 + (((pn : Nat) : Int) - 1).toNat * 1) rfl (by rw [bF]; simp; omega)
   refine bu.plain (p := { pr with ps := cW pr.ps c }) rfl ?_ ?_ fun k hk => .inl hk
   ·show Own _ 1 _ pn pc (bg (cW pr.ps c))
    rw [zP _ _ hpos]
    rw [hi] at e3 ⊢
    exact e3
   ·exact (hud.any).put (fun _ => ⟨_, rfl, rfl⟩) _ _
 ·have hn : ¬ (48 <= c /\ c <= 57) := hd
  have zero : ∀ {u1 : World}, Ext u u1 -> ∀ ev : Ev, ev.ps = [] -> bu u pp (Pr.zero, ev) (.returned (.tuple #[.agg #[.int .i64 0, .slice none 0 0, .string (ByteArray.mk #[]), .bool false], EvV ev none 0 0])) u1 := fun hu1 ev he => bu.plain he (Own.nil _ _) hu1.any fun _ h => (aJ h).elim
  have rest : ¬ (c = 59 /\ pr.ps.length < 4) -> lA pr c = if 64 <= c /\ c < 127 then (.zero, ⟨3, c, pr.ps, au⟩) else if c = 27 then ({ Pr.zero with at_ := 1 }, .none) else (.zero, .none) := fun h => by
   simp only [lA]; rw [if_neg hn, if_neg h]
  have semi : c = 59 -> pr.ps.length < 4 -> lA pr c = ({ pr with ps := pr.ps ++ [0] }, .none) := fun h1 h2 => by
   simp only [lA]; rw [if_neg hn, if_pos ⟨h1, h2⟩]
  have csi : Ext u (af (ab (ab (ab u hole) hole) hole)) -> ¬ (c = 59 /\ pr.ps.length < 4) -> 64 <= c -> c < 127 -> bu u pp (lA pr c) (.returned (.tuple #[.agg #[.int .i64 0, .slice none 0 0, .string (ByteArray.mk #[]), .bool false], .agg #[.int .i64 3, .int .i64 c, .slice pp pn pc, .string (ByteArray.mk #[])]])) (af (ab (ab (ab u hole) hole) hole)) := fun hu1 hr h6 h7 => by
   rw [rest hr, if_pos ⟨h6, h7⟩]
   exact ⟨none, 0, 0, pp, pn, pc, rfl, Own.nil _ _, (h.ext hu1).iG, hu1.any, fun _ h => (aJ h).elim, fun k hk => ⟨hk, aJ⟩⟩
  have esc : ∀ {u1 : World}, Ext u u1 -> ¬ (c = 59 /\ pr.ps.length < 4) -> c = 27 -> bu u pp (lA pr c) (.returned (.tuple #[.agg #[.int .i64 1, .slice none 0 0, .string (ByteArray.mk #[]), .bool false], .agg #[.int .i64 0, .int .i64 0, .slice none 0 0, .string (ByteArray.mk #[])]])) u1 := fun hu1 hr h27 => by
   rw [rest hr, if_neg (by omega), if_pos h27]
   exact bu.plain (p := { Pr.zero with at_ := 1 }) rfl (Own.nil _ _) hu1.any fun _ h => (aJ h).elim
  have oth : ∀ {u1 : World}, Ext u u1 -> ¬ (c = 59 /\ pr.ps.length < 4) -> ¬ (64 <= c /\ c < 127) -> ¬ c = 27 -> bu u pp (lA pr c) (.returned (.tuple #[.agg #[.int .i64 0, .slice none 0 0, .string (ByteArray.mk #[]), .bool false], .agg #[.int .i64 0, .int .i64 0, .slice none 0 0, .string (ByteArray.mk #[])]])) u1 := fun hu1 hr h64 h27 => by
   rw [rest hr, if_neg h64, if_neg h27]
   exact zero hu1 .none rfl
  have app : c = 59 -> pr.ps.length < 4 -> ∃ old new : List Value, old.length = pn * 1 /\ Gets (ab (ab (ab (ab u hole) hole) hole) (.cells #[.int .i64 0] aF)) pp old /\
    new.length = 1 * 1 /\ Gets (ab (ab (ab (ab u hole) hole) hole) (.cells #[.int .i64 0] aF)) (some (Addr.mk (ab (ab (ab u hole) hole) hole).heap.size 0 none)) new /\
    0 < 8 /\ (2 * (pn + 1) + 192) * 8 <= 140737488355328 /\ okCells new True /\
    (pn + 1 <= pc -> WrS (ab (ab (ab (ab u hole) hole) hole) (.cells #[.int .i64 0] aF)) pp (pn * 1) (1 * 1)) /\
    ∀ p cap u1, cD (ab (ab (ab (ab u hole) hole) hole) (.cells #[.int .i64 0] aF)) 3 1 [.int .i64 0] pp pn pc 1 old new p cap u1 ->
    bu u pp (lA pr c) (.returned (.tuple #[.agg #[.int .i64 pr.at_, .slice p (pn + 1) cap, .string pr.pl, .bool pr.fA], .agg #[.int .i64 0, .int .i64 0, .slice none 0 0, .string (ByteArray.mk #[])]])) u1 := fun h59 h4 => by
   have hu2 : Ext u (ab (ab (ab (ab u hole) hole) hole) (.cells #[.int .i64 0] aF)) := hu.alloc _
   have e := h.ext hu2
   have ef : Own (ab (ab (ab (ab u hole) hole) hole) (.cells #[.int .i64 0] aF)) 1 _ 1 1 [.int .i64 0] := Own.fresh (ab (ab (ab u hole) hole) hole) (cs := [.int .i64 0]) rfl
   refine ⟨bg pr.ps, bg [0], e.len, e.aH, rfl, ef.aH, by decide, by omega, iY _, fun hc => e.wrs (by omega), fun p cap u1 hr => ?_⟩
   obtain ⟨h1, h2, h3⟩ := e.app hr e.len e.aH rfl rfl
   rw [semi h59 h4]
   refine bu.plain (p := { pr with ps := pr.ps ++ [0] }) rfl ?_ (hu2.any.trans h2 fun _ _ h => h) fun k hk => ?_
   ·show Own _ _ _ _ _ (bg (pr.ps ++ [0]))
    unfold bg at h1 ⊢
    rw [List.map_append]
    exact h1
   ·rcases h3 with ⟨rfl, _⟩ | ⟨rfl, _⟩
    ·exact .inl hk
    ·right
     rw [ar hk]
     simp only [size_alloc]
     omega
  simp only [decide_eq_true_eq, decide_eq_false_iff_not]
  repeat' (refine And.intro (fun _ => ?_) (fun _ => ?_))
  all_goals first
   | (exfalso; omega)
   | exact app (by omega) (by omega)
   | exact csi hud (by omega) (by omega) (by omega)
   | exact esc hu (by omega) (by omega)
   | exact oth hu (by omega) (by omega) (by omega)
end Go.Proofs.YtkmmphkjmamckacGreatDoor
