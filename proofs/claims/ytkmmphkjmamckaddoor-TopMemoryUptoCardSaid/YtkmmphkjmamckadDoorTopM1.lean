/-
  Another server does the same act, and stands alike; and all that the first one told is written over.
-/
import Derived.Test.YtkmmphkjmamckadDoorTopPlay
import Derived.Test.YtkmmphkjmamckadDoorTopSame2
import Derived.Test.YtkmmphkjmamckadDoorZVm
namespace Go.Proofs.YtkmmphkjmamckadDoor
open Go
set_option linter.all false

theorem Wr.set {u : World} {b o n : Nat} (h : Wr u b o n) (a : Addr) (v : Value) : Wr (u.setCell a v) b o n := fun j hj => by
  obtain ⟨⟨c, hc⟩, hf⟩ := h j hj
  refine ⟨?_, by rw [World.frozen?_setCell]; exact hf⟩
  by_cases e : a = ⟨b, o + j, none⟩
  · subst e
    exact ⟨v, World.cell?_setCell_same _ _ _ hc⟩
  · exact ⟨c, (cell_set_other _ _ e).trans hc⟩

theorem Wr.putC {b o n b' : Nat} : ∀ (cs : List Value) (o' : Nat) {u : World}, Wr u b o n → Wr (putCells u b' o' cs) b o n
  | [], _, _, h => h
  | c :: cs, o', _, h => Wr.putC cs (o' + 1) (h.set _ c)

theorem Nums.wr {u : World} {q : Option Addr} {n : Nat} {l : List Int} (h : Nums u q n l) (hw : ∀ k, At q k → Wrb u k) {i : Nat} (hi : i < n) : ∃ b o, q = some ⟨b, o, none⟩ ∧ Wr u b (o + i * 1) 1 := by
  obtain ⟨b, o, rfl, hr⟩ := h.at hi
  refine ⟨b, o, rfl, fun j hj => ?_⟩
  obtain ⟨cs, t, hk⟩ := hw b ⟨_, rfl, rfl⟩
  have : j = 0 := by omega
  subst this
  refine ⟨⟨_, hr.1⟩, ?_⟩
  simp only [World.frozen?, hk]
  simp

/-- What was told, as a place to write: the columns' slices lie in block hb, all else elsewhere. -/
structure MemW (n0 n1 hb ho : Nat) (z : World) (X : List Value) (v : Vw) : Prop where
  lo : n0 ≤ n1
  grid : ∀ i : Nat, i < 6 → ∃ p c, takeN X (1 + i * 9 + 2) 1 = some [.slice p (v.grids.getD i .zero).cells.length c] ∧ ∀ x : Nat, x < (v.grids.getD i .zero).cells.length → ∃ b o, p = some ⟨b, o, none⟩ ∧ n1 ≤ b ∧ Wr z b (o + x * 4) 4
  hd : hb < n1
  col : ∀ i : Nat, i < v.cols.length → ∃ q d, Rd z hb (ho + i * 1) [.slice q (v.cols.getD i []).length d] ∧ ∀ x : Nat, x < (v.cols.getD i []).length → ∃ b o, q = some ⟨b, o, none⟩ ∧ n0 ≤ b ∧ b ≠ hb ∧ Wr z b (o + x * 1) 1

theorem MemW.put {n0 n1 hb ho : Nat} {z : World} {X : List Value} {v : Vw} (h : MemW n0 n1 hb ho z X v) {b : Nat} (hn : b ≠ hb) (o : Nat) (cs : List Value) : MemW n0 n1 hb ho (putCells z b o cs) X v := by
  refine ⟨h.lo, fun i hi => ?_, h.hd, fun i hi => ?_⟩
  · obtain ⟨p, c, h1, h2⟩ := h.grid i hi
    refine ⟨p, c, h1, fun x hx => ?_⟩
    obtain ⟨b1, o1, k1, k2, k3⟩ := h2 x hx
    exact ⟨b1, o1, k1, k2, Wr.putC _ _ k3⟩
  · obtain ⟨q, d, h1, h2⟩ := h.col i hi
    refine ⟨q, d, (upd_put (u := z) b o cs).rd h1 fun e => hn e.symm, fun x hx => ?_⟩
    obtain ⟨b1, o1, k1, k2, k3, k4⟩ := h2 x hx
    exact ⟨b1, o1, k1, k2, k3, Wr.putC _ _ k4⟩

theorem VwF.w {n0 : Nat} {u : World} {X : List Value} {v : Vw} (h : VwF n0 u X v) (hc : GoodT v.cols) : ∃ n1 hb ho c, takeN X 0 1 = some [.slice (some ⟨hb, ho, none⟩) v.cols.length c] ∧ MemW n0 n1 hb ho u X v := by
  obtain ⟨⟨n1, h0, ⟨p, c, t1, ⟨xs, o1, o2⟩, t3⟩, hg⟩, few, gb, w, hi, fo, len, okv⟩ := h
  have hpos : 0 < v.cols.length := List.length_pos_iff.2 hc.some
  obtain ⟨hb, rfl⟩ := o1.some' hpos
  refine ⟨n1, hb, 0, c, t1, h0, fun i hi => ?_, (t3 hb ⟨_, rfl, rfl⟩).2, fun i hi => ?_⟩
  · obtain ⟨p, c, g1, g2, g3⟩ := hg i hi
    refine ⟨p, c, takeN_sub g1 (j := 2) (m := 1) rfl (by decide), fun x hx => ?_⟩
    obtain ⟨b, rfl⟩ := g2.some' (by omega)
    have hw := g2.wrs (o := x * 4) (m := 4) (by have := g2.le; have : (x + 1) * 4 ≤ c * 4 := Nat.mul_le_mul_right 4 (by omega); omega)
    exact ⟨b, 0, rfl, g3 b ⟨_, rfl, rfl⟩, hw.2⟩
  · obtain ⟨q, d, k1, k2, k3⟩ := o2.at hi
    have hA : Arr u 1 (some ⟨hb, 0, none⟩) v.cols.length xs := ⟨o1.gets, by rw [o2.len], o2.each⟩
    obtain ⟨b, o, e, hr⟩ := hA.at hi (by decide)
    cases e
    rw [k1] at hr
    refine ⟨q, d, hr, fun x hx => ?_⟩
    obtain ⟨b, o, rfl, hw⟩ := k2.wr (fun k hk => (k3 k hk).2.2.2) hx
    obtain ⟨m1, m2, m3, m4⟩ := k3 b ⟨_, rfl, rfl⟩
    exact ⟨b, o, rfl, m1, fun e => m3 ⟨_, rfl, e.symm⟩, hw⟩

/-- Another server, and where its pointer lies. -/
structure MemX (u : World) (cb ob : Nat) (B : Nat → Prop) (s : Sv) : Prop where
  ptr : Rd u cb 0 [.pointer (some ⟨ob, 0, none⟩)]
  sv : SvM u ob B s

theorem PlayM.over {S : Nat → Prop} {n0 : Nat} {u u1 u' : World} {sb tb : Nat} {s : Sv} {t : List Tm} (h : PlayM n0 u sb tb s t) (hc : GoodT s.v.cols) (hu : Ext u u1) (hw : Upd S u1 u') (hS : ∀ k, S k → u.heap.size ≤ k) : PlayM n0 u' sb tb s t :=
  ⟨h.sv.over hc hu hw hS, h.tm.over hu hw hS, h.ne, h.sn, h.tn⟩

/-- What the look comes to. -/
structure MemTo (n0 : Nat) (w : World) (sb tb cb ob : Nat) (s' : Sv) (t' : List Tm) (e : Ending) (w' : World) : Prop where
  e : e = .returned (.bool true)
  play : PlayM n0 w' sb tb s' t'
  mem : MemX w' cb ob (fun k => k = ob ∨ k = sb ∨ k = tb) s'
  upd : Upd (· = ob) w w'

set_option maxHeartbeats 2000000 in
theorem memory1_ok {k n0 sb tb cb ob : Nat} {w : World} {s : Sv} {t t' : List Tm} {a : Ac} (hI : PlayI k s t) (hk : (k : Int) < 300) (hbl : a.bytes.length ≤ 1048576) (P : PlayM n0 w sb tb (doS s a).1 t') (hX : MemX w cb ob (fun k => k = ob ∨ k = sb ∨ k = tb) s) (hc : cb < n0) (ho : ob < n0) (hn : cb ≠ ob) :
    Spec Tryd.prog fn_fenestratop_TopMemory_c1 #[.pointer (some ⟨sb, 0, none⟩), .pointer (some ⟨tb, 0, none⟩), .agg #[.int .i64 a.kind, .int .i64 a.p, .int .i64 a.n, .int .i64 a.m, .string (bstr a.bytes)], .agg #[.int .i64 (doS s a).2.code, .int .i64 (doS s a).2.n, .string (bstr (doS s a).2.out)], .pointer (some ⟨cb, 0, none⟩)] w (MemTo n0 w sb tb cb ob (doS s a).1 t') := by
  apply vc_fenestratop_TopMemory_c1_spec
  unfold vc_fenestratop_TopMemory_c1
  simp only [decide_eq_true_eq, decide_eq_false_iff_not, true_and, Bool.not_eq_true', Bool.not_eq_false']
  have h0 : Ext w (drewW (allocW (allocW w hole) hole)) := (((Upd.refl w).alloc _).alloc _).drew
  have r0 := h0.rd hX.ptr fun h => h
  refine ⟨ob, 0, rfl, r0, ?_⟩
  refine (srvDo_ok (hX.sv.ext h0) hI.inv hI.ge a (bstr_list _) (by rw [bstr_sz]; exact hbl)).mono fun e w1 ⟨he, hm, hw1⟩ => ⟨_, _, _, he, fun hf => (by simp at hf), fun _ => ?_⟩
  have r1 := hw1.rd r0 hn
  have P1 := (P.ext h0).upd hw1 fun k hk => by omega
  have I' := do_inv hI.inv a
  refine ⟨ob, 0, rfl, r1, (srvSame_ok P1.sv hm I' I' rfl rfl).mono fun e w2 ⟨he, hw2⟩ => ⟨_, he, fun hf => (by cases hf), fun _ => ?_⟩⟩
  have P2 := P1.ext hw2
  have O2 := hm.ext hw2
  have r2 := hw2.rd r1 fun h => h
  have l2 := rd_lt r2
  have x2 : Upd (· = ob) w w2 := ((h0.any (S := (· = ob))).trans hw1 fun _ _ h => h).ext hw2
  refine (srvView_ok P2.sv (smallFew I'.cols) (fun p hp => I'.grid_or p hp)).mono fun e w3 ⟨⟨X, he, V⟩, hw3⟩ => ⟨X, he, V.len.symm, okCells_mem V.okv ⟨X, putN_all (by rw [V.len]; rfl), ?_⟩⟩
  generalize hs' : (doS s a).1 = s' at *
  have ha3 : Ext w3 (allocW w3 hole) := (Upd.refl _).alloc _
  have hw3a := hw3.ext ha3
  obtain ⟨n1, hb, hoo, hcc, t0, M0⟩ := (V.ext ha3).w I'.cols
  have few := I'.cols.few'
  have fin : ∀ {z : World}, Upd (fun k => w2.heap.size ≤ k) (allocW w3 hole) z → MemTo n0 w sb tb cb ob s' t' (.returned (.bool true)) z := fun hz => by
    refine ⟨rfl, P2.over I'.cols hw3a hz fun k hk => hk, ⟨hz.rd (hw3a.rd r2 fun h => h) (by omega), O2.over I'.cols hw3a hz fun k hk => hk⟩, (x2.ext hw3a).trans hz fun k hk h => ?_⟩
    have := x2.size
    omega
  refine ⟨fun y z => 0 ≤ y ∧ y ≤ 6 ∧ MemW w2.heap.size n1 hb hoo z X s'.v ∧ Upd (fun k => w2.heap.size ≤ k) (allocW w3 hole) z, fun y _ => (6 - y).toNat, ⟨by omega, by omega, M0, Upd.refl _⟩, ?_⟩
  rintro y z ⟨y0, y6, M, hz⟩
  refine ⟨fun hy => ?_, fun hy => ?_⟩
  · obtain ⟨p, c, g1, _⟩ := M.grid y.toNat (by omega)
    refine ⟨y0, hy, p, _, c, g1, fun x z1 => 0 ≤ x ∧ x ≤ (s'.v.grids.getD y.toNat .zero).cells.length ∧ MemW w2.heap.size n1 hb hoo z1 X s'.v ∧ Upd (fun k => w2.heap.size ≤ k) (allocW w3 hole) z1, fun x _ => ((s'.v.grids.getD y.toNat .zero).cells.length - x).toNat, ⟨by omega, by omega, M, hz⟩, ?_⟩
    rintro x z1 ⟨x0, x1, M1, hz1⟩
    refine ⟨fun hx => ?_, fun hx => ⟨by simp only [inK]; omega, ⟨by omega, by omega, M1, hz1⟩, by first | omega | (dsimp only; omega)⟩⟩
    obtain ⟨p, c, g1, g2⟩ := M1.grid y.toNat (by omega)
    obtain ⟨b, o, rfl, g3, g4⟩ := g2 x.toNat (by omega)
    have hgl : (s'.v.grids.getD y.toNat .zero).cells.length ≤ 1048576 := (V.gb y.toNat (by omega)).1
    have := M1.hd
    have := M1.lo
    exact ⟨y0, hy, _, _, c, g1, b, o, rfl, x0, hx, rfl, g4, by simp only [inK]; omega, ⟨by omega, by omega, M1.put (by omega) _ _, hz1.put (fun _ => by omega) _ _⟩, by first | omega | (dsimp only; omega)⟩
  · refine ⟨_, _, hcc, t0, fun x z1 => 0 ≤ x ∧ x ≤ s'.v.cols.length ∧ MemW w2.heap.size n1 hb hoo z1 X s'.v ∧ Upd (fun k => w2.heap.size ≤ k) (allocW w3 hole) z1, fun x _ => (s'.v.cols.length - x).toNat, ⟨by omega, by omega, M, hz⟩, ?_⟩
    rintro x z1 ⟨x0, x1, M1, hz1⟩
    have hcl := few.n
    refine ⟨fun hx => ?_, fun hx => fin hz1⟩
    obtain ⟨q, d, c1, _⟩ := M1.col x.toNat (by omega)
    have hcl2 := few.getD x.toNat
    refine ⟨_, _, hcc, t0, hb, hoo, rfl, x0, hx, q, _, d, rfl, c1, fun y2 z2 => 0 ≤ y2 ∧ y2 ≤ (s'.v.cols.getD x.toNat []).length ∧ MemW w2.heap.size n1 hb hoo z2 X s'.v ∧ Upd (fun k => w2.heap.size ≤ k) (allocW w3 hole) z2, fun y2 _ => ((s'.v.cols.getD x.toNat []).length - y2).toNat, ⟨by omega, by omega, M1, hz1⟩, ?_⟩
    rintro y2 z2 ⟨v0, v1, M2, hz2⟩
    refine ⟨fun hy2 => ?_, fun hy2 => ⟨by simp only [inK]; omega, ⟨by omega, by omega, M2, hz2⟩, by first | omega | (dsimp only; omega)⟩⟩
    obtain ⟨q, d, c1, c2⟩ := M2.col x.toNat (by omega)
    obtain ⟨b, o, rfl, c3, c4, c5⟩ := c2 y2.toNat (by omega)
    exact ⟨_, _, hcc, t0, hb, hoo, rfl, x0, hx, _, _, d, rfl, c1, b, o, rfl, v0, hy2, rfl, c5, by simp only [inK]; omega, ⟨by omega, by omega, M2.put c4 _ _, hz2.put (fun _ => c3) _ _⟩, by first | omega | (dsimp only; omega)⟩

end Go.Proofs.YtkmmphkjmamckadDoor
