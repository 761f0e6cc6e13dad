/-
  slices.Insert and slices.Delete at slices of one's own.
-/
import Derived.Test.YtkmmphkjmamckabDoorZM
import Derived.Test.YtkmmphkjmamckabDoorZB
import Derived.Test.YtkmmphkjmamckabDoorZL
import Derived.Test.YtkmmphkjmamckabDoorVcRep
import Derived.Test.YtkmmphkjmamckabDoorZVa
import Derived.Lib.Overlaps
namespace Go.Proofs.YtkmmphkjmamckabDoor
open Go
set_option linter.all false

/-- A slice of one's own has come, the same one or a new one. -/
structure InsPost (u : World) (p : Option Addr) (n : Nat) (cs : List Value) (e : Ending) (u' : World) : Prop where
  ex : ∃ p' c', e = .returned (.slice p' n c') ∧ Own u' 1 p' n c' cs ∧ ∀ k, At p' k → At p k ∨ u.heap.size ≤ k
  upd : Upd (At p) u u'

theorem putSl_some (u : World) (b o k : Nat) (cs : List Value) : putSl u (some ⟨b, o, none⟩) k cs = putCells u b (o + k) cs := rfl

theorem cut0 (p : Option Addr) (c : Nat) : (if c = 0 then p else Option.map (fun a => Addr.add a 0) p) = p := by
  split
  · rfl
  · cases p with
    | none => rfl
    | some a => obtain ⟨b, o, s⟩ := a; cases s <;> simp [Addr.add]

theorem cutAt1 {b k c : Nat} (h : c ≠ k) : (if c = k then some (Addr.mk b 0 none) else Option.map (fun a => Addr.add a k) (some ⟨b, 0, none⟩)) = some ⟨b, k, none⟩ := by
  rw [if_neg h]
  simp [Addr.add]
  intro hk
  exact hk.symm

theorem Own.takeO {u : World} {p : Option Addr} {n c : Nat} {cs : List Value} (h : Own u 1 p n c cs) {i : Nat} (hi : i ≤ n) : Own u 1 p i c (cs.take i) := by
  rcases h with ⟨rfl, rfl, rfl, rfl⟩ | ⟨b, t, r, rfl, hb, hl, hc, hr⟩
  · have : i = 0 := by omega
    subst this
    exact .inl ⟨rfl, rfl, rfl, rfl⟩
  · refine .inr ⟨b, t, cs.drop i ++ r, rfl, ?_, by rw [List.length_take]; omega, by omega, by rw [List.length_append, List.length_drop]; omega⟩
    rw [hb, ← List.append_assoc, List.take_append_drop]

theorem Own.cutD {u : World} {b n c : Nat} {cs : List Value} (h : Own u 1 (some ⟨b, 0, none⟩) n c cs) {i : Nat} (hi : i ≤ n) (hl : cs.length = n) : Gets u (if c = i then some (Addr.mk b 0 none) else Option.map (fun a => Addr.add a i) (some ⟨b, 0, none⟩)) (cs.drop i) := by
  have hle := h.le
  by_cases hc : c = i
  · rw [if_pos hc, List.drop_eq_nil_of_le (by omega)]
    exact gets_nil _ _
  · rw [cutAt1 hc]
    rcases h with ⟨h, _⟩ | ⟨b', t, r, hp, hb, _⟩
    · cases h
    · cases hp
      refine ⟨fun _ => rfl, ?_⟩
      have e : cs ++ r = cs.take i ++ cs.drop i ++ r := by rw [List.take_append_drop]
      rw [e] at hb
      have := rd_heap (cs.drop i) (cs.take i) r hb
      rw [List.length_take] at this
      rwa [show min i cs.length = i by omega] at this

theorem Own.one {u : World} {b n c : Nat} {cs : List Value} (h : Own u 1 (some ⟨b, 0, none⟩) n c cs) (hc : n + 1 ≤ c) : ∃ y, Own u 1 (some ⟨b, 0, none⟩) (n + 1) c (cs ++ [y]) := by
  rcases h with ⟨h, _⟩ | ⟨b', t, r, hp, hb, hl, _, hr⟩
  · cases h
  · cases hp
    cases r with
    | nil => simp at hr; omega
    | cons y r =>
      refine ⟨y, .inr ⟨b, t, r, rfl, by rw [hb]; simp, by simp; omega, hc, by simp at hr; omega⟩⟩

theorem okCells_drop {cs : List Value} (h : okCells cs True) (i : Nat) : okCells (cs.drop i) True := by
  rw [okCells_iff] at h ⊢
  exact ⟨fun c hc => h.1 c (List.mem_of_mem_drop hc), trivial⟩

theorem ins_new {cs z : List Value} {i : Nat} {x : Value} (hi : i ≤ cs.length) (hz : z.length = cs.length + 1 - i) :
    ((cs.take i ++ z).take i ++ [x] ++ (cs.take i ++ z).drop (i + [x].length)).take (i + 1) ++ cs.drop i ++ ((cs.take i ++ z).take i ++ [x] ++ (cs.take i ++ z).drop (i + [x].length)).drop (i + 1 + (cs.drop i).length) = cs.take i ++ [x] ++ cs.drop i := by
  have h1 : (cs.take i ++ z).take i = cs.take i := List.take_left' (by rw [List.length_take]; omega)
  have hd : ((cs.take i ++ z).drop (i + [x].length)).length = cs.length - i := by
    rw [List.length_drop, List.length_append, List.length_take]
    simp only [List.length_cons, List.length_nil]
    omega
  rw [h1]
  generalize (cs.take i ++ z).drop (i + [x].length) = d at hd
  have hl : (cs.take i ++ [x]).length = i + 1 := by simp; omega
  have h3 : (cs.take i ++ [x] ++ d).drop (i + 1 + (cs.drop i).length) = [] := List.drop_eq_nil_of_le (by rw [List.length_append, hl, hd, List.length_drop]; omega)
  rw [List.take_left' hl, h3, List.append_nil]

theorem ins_in {cs : List Value} {i : Nat} {x y : Value} (hi : i ≤ cs.length) :
    ((cs ++ [y]).take (i + 1) ++ cs.drop i ++ (cs ++ [y]).drop (i + 1 + (cs.drop i).length)).take i ++ [x] ++ ((cs ++ [y]).take (i + 1) ++ cs.drop i ++ (cs ++ [y]).drop (i + 1 + (cs.drop i).length)).drop (i + [x].length) = cs.take i ++ [x] ++ cs.drop i := by
  have hl : ((cs ++ [y]).take (i + 1)).length = i + 1 := by simp; omega
  have h3 : (cs ++ [y]).drop (i + 1 + (cs.drop i).length) = [] := List.drop_eq_nil_of_le (by rw [List.length_append, List.length_drop]; simp only [List.length_cons, List.length_nil]; omega)
  rw [h3, List.append_nil]
  have h1 : ((cs ++ [y]).take (i + 1) ++ cs.drop i).drop (i + [x].length) = cs.drop i := List.drop_left' (by rw [hl]; rfl)
  rw [h1, List.take_append_of_le_length (by omega), List.take_take, show min i (i + 1) = i by omega, List.take_append_of_le_length hi]

theorem overlaps_no {u : World} {vb b o : Nat} {v1 : List Value} {t1 t2 : TypeId} {v2 : List Value} (h1 : u.heap[vb]? = some (.cells v1.toArray t1 (0, 0))) (h2 : u.heap[b]? = some (.cells v2.toArray t2 (0, 0))) (hne : vb ≠ b) (h0 : v2 ≠ []) (n1 c1 n2 c2 : Nat) :
    ∀ w', Le u w' → (callFunc fn_slices_overlaps_int #[.slice (some ⟨vb, 0, none⟩) n1 c1, .slice (some ⟨b, o, none⟩) n2 c2]).run Tryd.prog w' = .ok (.value (.bool false)) w' := fun w' hle => by
  have g1 := (hle.block vb _ h1).resolve_left (by unfold hole; simp)
  have g2 := (hle.block b _ h2).resolve_left (by unfold hole; simp)
  rw [run_callFunc_extern (f := fn_slices_overlaps_int) Tryd.func67 (by kernel_rfl) (by kernel_rfl) (by kernel_rfl) (e := Extern.SlicesOverlaps.overlaps #[ty_sl_int, ty_sl_int] #[ty_bool]) (by kernel_rfl),
    Lib.run_overlaps_apart w' ty_sl_int ty_bool ty_int Tryd.underlying42 1 (run_sizeOf (ti_ok tabOk (t := ty_int) rfl).2) ⟨vb, 0, none⟩ ⟨b, o, none⟩ n1 c1 n2 c2 hne t1 t2 v1.length v2.length (by simp [World.shape?, g1]) (by simp [World.shape?, g2]) (by
      intro e
      exact h0 (List.length_eq_zero_iff.1 e)) (by simp [World.frozen?, g1]) (by simp [World.frozen?, g1])]
  rfl

set_option maxHeartbeats 1000000 in
theorem insert_ok {u : World} {p : Option Addr} {n c : Nat} {cs : List Value} (h : Own u 1 p n c cs) (hcs : okCells cs True) {i : Nat} (hi : i ≤ n) (hn : n ≤ 1000) {vb vc : Nat} {x : Value} (hv : Own u 1 (some ⟨vb, 0, none⟩) 1 vc [x]) (hx : okCells [x] True) (hne : ∀ k, At p k → k ≠ vb) :
    Spec Tryd.prog fn_slices_Insert_int_int #[.slice p n c, .int .i64 (i : Nat), .slice (some ⟨vb, 0, none⟩) 1 vc] u (InsPost u p (n + 1) (cs.take i ++ [x] ++ cs.drop i)) := by
  apply vc_slices_Insert_int_int_spec
  unfold vc_slices_Insert_int_int
  simp only [decide_eq_true_eq, decide_eq_false_iff_not, Bool.not_eq_true', Bool.not_eq_false', Int.toNat_natCast, Int.toNat_zero, Nat.sub_zero, Nat.mul_one, Nat.zero_mul, Nat.zero_add, Nat.add_zero, putSl_some, cut0]
  have hl := h.len
  rw [Nat.mul_one] at hl
  have hle := h.le
  have hu := Upd.refl (S := At p) u
  refine ⟨by omega, by omega, by omega, fun hz => by omega, fun _ => ⟨fun he => ?_, fun he => ?_⟩⟩
  · have he : i = n := by omega
    subst he
    refine ⟨cs, [x], by omega, h.gets, rfl, hv.gets, by decide, by omega, hx, fun hc => h.wrs (by omega), fun p' cap u1 hr => ?_⟩
    obtain ⟨a1, a2, a3⟩ := h.app hr (by omega) h.gets rfl rfl
    rw [List.take_of_length_le (by omega), List.drop_eq_nil_of_le (by omega), List.append_nil]
    refine ⟨⟨p', cap, rfl, a1, fun k hk => ?_⟩, a2⟩
    rcases a3 with ⟨rfl, _⟩ | ⟨rfl, _⟩
    · exact .inl hk
    · right; rw [at_some hk]; exact Nat.le_refl _
  have hin : i < n := by omega
  obtain ⟨b, rfl⟩ := h.some' (by omega)
  have hbne : vb ≠ b := fun e => hne b ⟨_, rfl, rfl⟩ e.symm
  refine ⟨by simp only [inK]; omega, fun hg => ?_, fun hg => ?_⟩
  · -- a new row
    have e1 : (((n : Nat) : Int) + ((1 : Nat) : Int) - ((i : Nat) : Int)).toNat = n + 1 - i := by omega
    rw [e1]
    refine ⟨by omega, by omega, by omega, by simp only [inK]; omega, by simp only [inK]; omega, cs.take i, by rw [List.length_take]; omega, h.takeO hi |>.gets, by decide, by decide, by omega, by omega, by omega, fun p1 cap1 u1 hr => ?_⟩
    have ht := h.takeO hi
    obtain ⟨a1, a2, a3⟩ := ht.app hr (by rw [List.length_take]; omega) ht.gets (by rw [repl_len]; simp) rfl
    have hp1 : p1 = some ⟨u.heap.size, 0, none⟩ ∧ Ext u u1 := a3.resolve_left (by omega)
    obtain ⟨rfl, hx1⟩ := hp1
    have hcap := a1.le
    have hin1 : i + (n + 1 - i) = n + 1 := by omega
    rw [hin1] at a1 hcap ⊢
    have hmin : min 1 (n + 1 - i) = 1 := by omega
    have hmin2 : min (n - i) (n + 1 - (i + 1)) = n - i := by omega
    have e2 : (((i : Nat) : Int) + ((1 : Nat) : Int)).toNat = i + 1 := by omega
    simp only [hmin, hmin2, e2]
    have q1 : (if cap1 = i then some (Addr.mk u.heap.size 0 none) else Option.map (fun a => Addr.add a i) (some ⟨u.heap.size, 0, none⟩)) = some ⟨u.heap.size, i, none⟩ := cutAt1 (by omega)
    rw [q1]
    simp only [putSl_some, Nat.add_zero]
    have hvu := hv.ext hx1
    have o1 := a1.over (o := i) (ys := [x]) (by rw [List.length_append, List.length_take, repl_len]; simp; omega)
    have hs1 : Ext u (putCells u1 u.heap.size i [x]) := hx1.put (fun hh => by omega) _ _
    have hd1 : Ext u (drewW (putCells u1 u.heap.size i [x])) := hs1.drew
    have hsrc := (h.ext hd1)
    have od1 : Own (drewW (putCells u1 u.heap.size i [x])) 1 (some ⟨u.heap.size, 0, none⟩) (n + 1) cap1 _ := o1.ext ((Upd.refl _).drew)
    have q2 : Gets (drewW (putCells u1 u.heap.size i [x])) (if c = i then some (Addr.mk b 0 none) else Option.map (fun a => Addr.add a i) (some ⟨b, 0, none⟩)) (cs.drop i) := hsrc.cutD (by omega) (by omega)
    refine ⟨by omega, by omega, by omega, [x], rfl, hvu.gets, hx, ⟨fun _ => rfl, by have := (a1.wrs (o := i) (m := 1) (by omega)).2; simpa using this⟩, by simp only [inK]; omega, by omega, by omega, by omega, by omega, by omega, by omega, cs.drop i, by rw [List.length_drop]; omega, q2, okCells_drop hcs i, ?_, ?_⟩
    · by_cases hce : cap1 = i + 1
      · rw [if_pos hce]; omega
      · rw [if_neg hce]
        refine ⟨fun _ => rfl, ?_⟩
        have := (od1.wrs (o := i + 1) (m := n - i) (by omega)).2
        simpa [Addr.add] using this
    · have hce : cap1 ≠ i + 1 := by omega
      rw [if_neg hce]
      have o2 := od1.over (o := i + 1) (ys := cs.drop i) (by
        simp only [List.length_append, List.length_take, List.length_drop, repl_len, List.length_cons, List.length_nil]
        omega)
      have e3 : putSl (drewW (putCells u1 u.heap.size i [x])) (Option.map (fun a => Addr.add a (i + 1)) (some ⟨u.heap.size, 0, none⟩)) 0 (cs.drop i) = putCells (drewW (putCells u1 u.heap.size i [x])) u.heap.size (i + 1) (cs.drop i) := by simp [putSl, Addr.add]
      rw [e3]
      refine ⟨⟨_, cap1, rfl, ?_, fun k hk => .inr (by rw [at_some hk]; exact Nat.le_refl _)⟩, (hd1.put (fun hh => by omega) _ _).any⟩
      have el := ins_new (cs := cs) (i := i) (x := x) (z := repl (n + 1 - i) [.int .i64 0]) (by omega) (by rw [repl_len]; simp; omega)
      rw [el] at o2
      exact o2
  · -- in place
    have hc1 : n + 1 ≤ c := by omega
    have e0 : (((n : Nat) : Int) + ((1 : Nat) : Int)).toNat = n + 1 := by omega
    have e2 : (((i : Nat) : Int) + ((1 : Nat) : Int)).toNat = i + 1 := by omega
    simp only [e0, e2, Int.toNat_natCast]
    have hm1 : min (n + 1 - i) (n + 1 - (i + 1)) = n - i := by omega
    have hm2 : min 1 (n + 1 - i) = 1 := by omega
    simp only [hm1, hm2]
    obtain ⟨y, hg1⟩ := h.one hc1
    have q0 : (if c = i then some (Addr.mk b 0 none) else Option.map (fun a => Addr.add a i) (some ⟨b, 0, none⟩)) = some ⟨b, i, none⟩ := cutAt1 (by omega)
    have q1 : (if c = i + 1 then some (Addr.mk b 0 none) else Option.map (fun a => Addr.add a (i + 1)) (some ⟨b, 0, none⟩)) = some ⟨b, i + 1, none⟩ := cutAt1 (by omega)
    rw [q0, q1]
    simp only [putSl_some, Nat.add_zero]
    obtain ⟨r1, t1, hb1⟩ := (hv.at ⟨_, rfl, rfl⟩).2
    obtain ⟨r2, t2, hb2⟩ := (h.at ⟨_, rfl, rfl⟩).2
    simp only at hb1 hb2
    have hd : Ext u (drewW u) := (Upd.refl u).drew
    have od := hg1.ext hd
    have src := (h.ext hd).cutD (i := i) (by omega) (by omega)
    rw [q0] at src
    have o1 := od.over (o := i + 1) (ys := cs.drop i) (by simp only [List.length_append, List.length_drop, List.length_cons, List.length_nil]; omega)
    have hvd := (hv.ext hd).upd (upd_put b (i + 1) (cs.drop i)) (fun k hk e => by rw [at_some hk] at e; exact hbne e)
    have o2 := o1.over (o := i) (ys := [x]) (by simp only [List.length_append, List.length_take, List.length_drop, List.length_cons, List.length_nil]; omega)
    refine ⟨by simp only [inK]; omega, by omega, by omega, by omega, by simp only [inK]; omega, by omega, by omega, by omega, false, overlaps_no hb1 hb2 hbne (by intro e; have := congrArg List.length e; simp only [List.length_append, List.length_nil] at this; omega) _ _ _ _,
      fun _ => ⟨by simp only [inK]; omega, by omega, by omega, by omega, by omega, by omega, by omega, cs.drop i, by rw [List.length_drop]; omega, src, okCells_drop hcs i, ⟨fun _ => rfl, by have := (od.wrs (o := i + 1) (m := n - i) (by omega)).2; simpa using this⟩, by omega, by omega, by omega, [x], rfl, hvd.gets, hx, ⟨fun _ => rfl, by have := (o1.wrs (o := i) (m := 1) (by omega)).2; simpa using this⟩, ?_⟩, fun hh => by cases hh⟩
    refine ⟨⟨_, c, rfl, ?_, fun k hk => .inl hk⟩, ((hd.any (S := At (some ⟨b, 0, none⟩))).put (fun _ => ⟨_, rfl, rfl⟩) _ _).put (fun _ => ⟨_, rfl, rfl⟩) _ _⟩
    have el := ins_in (cs := cs) (i := i) (x := x) (y := y) (by omega)
    rw [el] at o2
    exact o2

theorem delete_ok {u : World} {b n c : Nat} {cs : List Value} (h : Own u 1 (some ⟨b, 0, none⟩) n c cs) (hcs : okCells cs True) {i : Nat} (hi : i < n) (hn : n ≤ 1000) :
    Spec Tryd.prog fn_slices_Delete_int_int #[.slice (some ⟨b, 0, none⟩) n c, .int .i64 (i : Nat), .int .i64 ((i : Nat) + 1)] u (InsPost u (some ⟨b, 0, none⟩) (n - 1) (cs.take i ++ cs.drop (i + 1))) := by
  apply vc_slices_Delete_int_int_spec
  unfold vc_slices_Delete_int_int
  have e2 : (((i : Nat) : Int) + 1).toNat = i + 1 := by omega
  simp only [decide_eq_true_eq, decide_eq_false_iff_not, Bool.not_eq_true', Bool.not_eq_false', Int.toNat_natCast, Int.toNat_zero, Nat.sub_zero, Nat.mul_one, Nat.zero_mul, Nat.zero_add, Nat.add_zero, putSl_some, cut0, e2]
  have hl := h.len
  rw [Nat.mul_one] at hl
  have hle := h.le
  have hd : Ext u (drewW u) := (Upd.refl u).drew
  have hm : i + (n - (i + 1)) = n - 1 := by omega
  have ht := (h.ext hd).takeO (i := i) (by omega)
  have src := (h.ext hd).cutD (i := i + 1) (by omega) (by omega)
  simp only [hm]
  refine ⟨by omega, by omega, by omega, by omega, fun hh => by omega, fun _ => ⟨by omega, by omega, by omega, by omega, by omega, by omega, cs.take i, cs.drop (i + 1), by rw [List.length_take]; omega, ht.gets, by rw [List.length_drop]; omega, src, by decide, by omega, okCells_drop hcs _, fun hc => ht.wrs (by omega), fun p' cap u1 hr => ?_⟩⟩
  obtain ⟨a1, a2, a3⟩ := ht.app hr (by rw [List.length_take]; omega) ht.gets (by rw [List.length_drop]; omega) rfl
  rcases hr with ⟨hc, rfl, rfl, hu1⟩ | ⟨hc, _⟩
  rotate_left
  · omega
  rw [hm] at a1
  have hall : Own u1 1 (some ⟨b, 0, none⟩) n cap (cs.take i ++ cs.drop (i + 1) ++ cs.drop (n - 1)) := by
    have o := (h.ext hd).over (o := i) (ys := cs.drop (i + 1)) (by rw [List.length_drop]; omega)
    have e : i + (cs.drop (i + 1)).length = n - 1 := by rw [List.length_drop]; omega
    rw [e] at o
    rw [hu1]
    simpa [putSl] using o
  have hz : (repl (n - (n - 1)) [.int .i64 0]).length = 1 := by rw [repl_len]; simp; omega
  have hcut : (if cap = n - 1 then some (Addr.mk b 0 none) else Option.map (fun a => Addr.add a (n - 1)) (some ⟨b, 0, none⟩)) = some ⟨b, n - 1, none⟩ := cutAt1 (by omega)
  rw [hcut]
  simp only [putSl_some, Nat.add_zero]
  have o2 := hall.over (o := n - 1) (ys := repl (n - (n - 1)) [.int .i64 0]) (by
    rw [hz]
    simp only [List.length_append, List.length_take, List.length_drop]
    omega)
  have hone : repl (n - (n - 1)) [.int .i64 0] = [.int .i64 0] := by rw [show n - (n - 1) = 1 by omega]; rfl
  refine ⟨by omega, by omega, by omega, ?_, ⟨fun _ => rfl, by have := (hall.wrs (o := n - 1) (m := n - (n - 1)) (by omega)).2; simpa using this⟩, ⟨_, cap, rfl, ?_, fun k hk => .inl hk⟩, ?_⟩
  · rw [hone]; simp [okCells]
  · have o3 := o2.takeO (i := n - 1) (by omega)
    have el : ((cs.take i ++ cs.drop (i + 1) ++ cs.drop (n - 1)).take (n - 1) ++ repl (n - (n - 1)) [.int .i64 0] ++ (cs.take i ++ cs.drop (i + 1) ++ cs.drop (n - 1)).drop (n - 1 + (repl (n - (n - 1)) [.int .i64 0]).length)).take (n - 1) = cs.take i ++ cs.drop (i + 1) := by
      rw [List.append_assoc, List.take_append_of_le_length (by simp only [List.length_append, List.length_take, List.length_drop]; omega), List.take_take, Nat.min_self]
      exact List.take_left' (by simp only [List.length_append, List.length_take, List.length_drop]; omega)
    rw [el] at o3
    exact o3
  · exact (((hd.any (S := At (some ⟨b, 0, none⟩))).trans a2 fun _ _ h => h)).put (fun _ => ⟨_, rfl, rfl⟩) _ _

theorem overlaps_noL {u : World} {vb b o : Nat} {v1 : List Value} {t1 t2 : TypeId} {v2 : List Value} (h1 : u.heap[vb]? = some (.cells v1.toArray t1 (0, 0))) (h2 : u.heap[b]? = some (.cells v2.toArray t2 (0, 0))) (hne : vb ≠ b) (h0 : v2 ≠ []) (n1 c1 n2 c2 : Nat) :
    ∀ w', Le u w' → (callFunc fn_slices_overlapsL_int #[.slice (some ⟨vb, 0, none⟩) n1 c1, .slice (some ⟨b, o, none⟩) n2 c2]).run Tryd.prog w' = .ok (.value (.bool false)) w' := fun w' hle => by
  have g1 := (hle.block vb _ h1).resolve_left (by unfold hole; simp)
  have g2 := (hle.block b _ h2).resolve_left (by unfold hole; simp)
  rw [run_callFunc_extern (f := fn_slices_overlapsL_int) Tryd.func65 (by kernel_rfl) (by kernel_rfl) (by kernel_rfl) (e := Extern.SlicesOverlaps.overlaps #[ty_sl_sl_int, ty_sl_sl_int] #[ty_bool]) (by kernel_rfl),
    Lib.run_overlaps_apart w' ty_sl_sl_int ty_bool ty_sl_int Tryd.underlying52 1 (run_sizeOf (ti_ok tabOk (t := ty_sl_int) rfl).2) ⟨vb, 0, none⟩ ⟨b, o, none⟩ n1 c1 n2 c2 hne t1 t2 v1.length v2.length (by simp [World.shape?, g1]) (by simp [World.shape?, g2]) (by
      intro e
      exact h0 (List.length_eq_zero_iff.1 e)) (by simp [World.frozen?, g1]) (by simp [World.frozen?, g1])]
  rfl

set_option maxHeartbeats 1000000 in
theorem insertL_ok {u : World} {p : Option Addr} {n c : Nat} {cs : List Value} (h : Own u 1 p n c cs) (hcs : okCells cs True) {i : Nat} (hi : i ≤ n) (hn : n ≤ 1000) {vb vc : Nat} {x : Value} (hv : Own u 1 (some ⟨vb, 0, none⟩) 1 vc [x]) (hx : okCells [x] True) (hne : ∀ k, At p k → k ≠ vb) :
    Spec Tryd.prog fn_slices_InsertL_int_int #[.slice p n c, .int .i64 (i : Nat), .slice (some ⟨vb, 0, none⟩) 1 vc] u (InsPost u p (n + 1) (cs.take i ++ [x] ++ cs.drop i)) := by
  apply vc_slices_InsertL_int_int_spec
  unfold vc_slices_InsertL_int_int
  simp only [decide_eq_true_eq, decide_eq_false_iff_not, Bool.not_eq_true', Bool.not_eq_false', Int.toNat_natCast, Int.toNat_zero, Nat.sub_zero, Nat.mul_one, Nat.zero_mul, Nat.zero_add, Nat.add_zero, putSl_some, cut0]
  have hl := h.len
  rw [Nat.mul_one] at hl
  have hle := h.le
  have hu := Upd.refl (S := At p) u
  refine ⟨by omega, by omega, by omega, fun hz => by omega, fun _ => ⟨fun he => ?_, fun he => ?_⟩⟩
  · have he : i = n := by omega
    subst he
    refine ⟨cs, [x], by omega, h.gets, rfl, hv.gets, by decide, by omega, hx, fun hc => h.wrs (by omega), fun p' cap u1 hr => ?_⟩
    obtain ⟨a1, a2, a3⟩ := h.app hr (by omega) h.gets rfl rfl
    rw [List.take_of_length_le (by omega), List.drop_eq_nil_of_le (by omega), List.append_nil]
    refine ⟨⟨p', cap, rfl, a1, fun k hk => ?_⟩, a2⟩
    rcases a3 with ⟨rfl, _⟩ | ⟨rfl, _⟩
    · exact .inl hk
    · right; rw [at_some hk]; exact Nat.le_refl _
  have hin : i < n := by omega
  obtain ⟨b, rfl⟩ := h.some' (by omega)
  have hbne : vb ≠ b := fun e => hne b ⟨_, rfl, rfl⟩ e.symm
  refine ⟨by simp only [inK]; omega, fun hg => ?_, fun hg => ?_⟩
  · -- a new row
    have e1 : (((n : Nat) : Int) + ((1 : Nat) : Int) - ((i : Nat) : Int)).toNat = n + 1 - i := by omega
    rw [e1]
    refine ⟨by omega, by omega, by omega, by simp only [inK]; omega, by simp only [inK]; omega, cs.take i, by rw [List.length_take]; omega, h.takeO hi |>.gets, by decide, by decide, by omega, by omega, by omega, fun p1 cap1 u1 hr => ?_⟩
    have ht := h.takeO hi
    obtain ⟨a1, a2, a3⟩ := ht.app hr (by rw [List.length_take]; omega) ht.gets (by rw [repl_len]; simp) rfl
    have hp1 : p1 = some ⟨u.heap.size, 0, none⟩ ∧ Ext u u1 := a3.resolve_left (by omega)
    obtain ⟨rfl, hx1⟩ := hp1
    have hcap := a1.le
    have hin1 : i + (n + 1 - i) = n + 1 := by omega
    rw [hin1] at a1 hcap ⊢
    have hmin : min 1 (n + 1 - i) = 1 := by omega
    have hmin2 : min (n - i) (n + 1 - (i + 1)) = n - i := by omega
    have e2 : (((i : Nat) : Int) + ((1 : Nat) : Int)).toNat = i + 1 := by omega
    simp only [hmin, hmin2, e2]
    have q1 : (if cap1 = i then some (Addr.mk u.heap.size 0 none) else Option.map (fun a => Addr.add a i) (some ⟨u.heap.size, 0, none⟩)) = some ⟨u.heap.size, i, none⟩ := cutAt1 (by omega)
    rw [q1]
    simp only [putSl_some, Nat.add_zero]
    have hvu := hv.ext hx1
    have o1 := a1.over (o := i) (ys := [x]) (by rw [List.length_append, List.length_take, repl_len]; simp; omega)
    have hs1 : Ext u (putCells u1 u.heap.size i [x]) := hx1.put (fun hh => by omega) _ _
    have hd1 : Ext u (drewW (putCells u1 u.heap.size i [x])) := hs1.drew
    have hsrc := (h.ext hd1)
    have od1 : Own (drewW (putCells u1 u.heap.size i [x])) 1 (some ⟨u.heap.size, 0, none⟩) (n + 1) cap1 _ := o1.ext ((Upd.refl _).drew)
    have q2 : Gets (drewW (putCells u1 u.heap.size i [x])) (if c = i then some (Addr.mk b 0 none) else Option.map (fun a => Addr.add a i) (some ⟨b, 0, none⟩)) (cs.drop i) := hsrc.cutD (by omega) (by omega)
    refine ⟨by omega, by omega, by omega, [x], rfl, hvu.gets, hx, ⟨fun _ => rfl, by have := (a1.wrs (o := i) (m := 1) (by omega)).2; simpa using this⟩, by simp only [inK]; omega, by omega, by omega, by omega, by omega, by omega, by omega, cs.drop i, by rw [List.length_drop]; omega, q2, okCells_drop hcs i, ?_, ?_⟩
    · by_cases hce : cap1 = i + 1
      · rw [if_pos hce]; omega
      · rw [if_neg hce]
        refine ⟨fun _ => rfl, ?_⟩
        have := (od1.wrs (o := i + 1) (m := n - i) (by omega)).2
        simpa [Addr.add] using this
    · have hce : cap1 ≠ i + 1 := by omega
      rw [if_neg hce]
      have o2 := od1.over (o := i + 1) (ys := cs.drop i) (by
        simp only [List.length_append, List.length_take, List.length_drop, repl_len, List.length_cons, List.length_nil]
        omega)
      have e3 : putSl (drewW (putCells u1 u.heap.size i [x])) (Option.map (fun a => Addr.add a (i + 1)) (some ⟨u.heap.size, 0, none⟩)) 0 (cs.drop i) = putCells (drewW (putCells u1 u.heap.size i [x])) u.heap.size (i + 1) (cs.drop i) := by simp [putSl, Addr.add]
      rw [e3]
      refine ⟨⟨_, cap1, rfl, ?_, fun k hk => .inr (by rw [at_some hk]; exact Nat.le_refl _)⟩, (hd1.put (fun hh => by omega) _ _).any⟩
      have el := ins_new (cs := cs) (i := i) (x := x) (z := repl (n + 1 - i) [.slice none 0 0]) (by omega) (by rw [repl_len]; simp; omega)
      rw [el] at o2
      exact o2
  · -- in place
    have hc1 : n + 1 ≤ c := by omega
    have e0 : (((n : Nat) : Int) + ((1 : Nat) : Int)).toNat = n + 1 := by omega
    have e2 : (((i : Nat) : Int) + ((1 : Nat) : Int)).toNat = i + 1 := by omega
    simp only [e0, e2, Int.toNat_natCast]
    have hm1 : min (n + 1 - i) (n + 1 - (i + 1)) = n - i := by omega
    have hm2 : min 1 (n + 1 - i) = 1 := by omega
    simp only [hm1, hm2]
    obtain ⟨y, hg1⟩ := h.one hc1
    have q0 : (if c = i then some (Addr.mk b 0 none) else Option.map (fun a => Addr.add a i) (some ⟨b, 0, none⟩)) = some ⟨b, i, none⟩ := cutAt1 (by omega)
    have q1 : (if c = i + 1 then some (Addr.mk b 0 none) else Option.map (fun a => Addr.add a (i + 1)) (some ⟨b, 0, none⟩)) = some ⟨b, i + 1, none⟩ := cutAt1 (by omega)
    rw [q0, q1]
    simp only [putSl_some, Nat.add_zero]
    obtain ⟨r1, t1, hb1⟩ := (hv.at ⟨_, rfl, rfl⟩).2
    obtain ⟨r2, t2, hb2⟩ := (h.at ⟨_, rfl, rfl⟩).2
    simp only at hb1 hb2
    have hd : Ext u (drewW u) := (Upd.refl u).drew
    have od := hg1.ext hd
    have src := (h.ext hd).cutD (i := i) (by omega) (by omega)
    rw [q0] at src
    have o1 := od.over (o := i + 1) (ys := cs.drop i) (by simp only [List.length_append, List.length_drop, List.length_cons, List.length_nil]; omega)
    have hvd := (hv.ext hd).upd (upd_put b (i + 1) (cs.drop i)) (fun k hk e => by rw [at_some hk] at e; exact hbne e)
    have o2 := o1.over (o := i) (ys := [x]) (by simp only [List.length_append, List.length_take, List.length_drop, List.length_cons, List.length_nil]; omega)
    refine ⟨by simp only [inK]; omega, by omega, by omega, by omega, by simp only [inK]; omega, by omega, by omega, by omega, false, overlaps_noL hb1 hb2 hbne (by intro e; have := congrArg List.length e; simp only [List.length_append, List.length_nil] at this; omega) _ _ _ _,
      fun _ => ⟨by simp only [inK]; omega, by omega, by omega, by omega, by omega, by omega, by omega, cs.drop i, by rw [List.length_drop]; omega, src, okCells_drop hcs i, ⟨fun _ => rfl, by have := (od.wrs (o := i + 1) (m := n - i) (by omega)).2; simpa using this⟩, by omega, by omega, by omega, [x], rfl, hvd.gets, hx, ⟨fun _ => rfl, by have := (o1.wrs (o := i) (m := 1) (by omega)).2; simpa using this⟩, ?_⟩, fun hh => by cases hh⟩
    refine ⟨⟨_, c, rfl, ?_, fun k hk => .inl hk⟩, ((hd.any (S := At (some ⟨b, 0, none⟩))).put (fun _ => ⟨_, rfl, rfl⟩) _ _).put (fun _ => ⟨_, rfl, rfl⟩) _ _⟩
    have el := ins_in (cs := cs) (i := i) (x := x) (y := y) (by omega)
    rw [el] at o2
    exact o2

theorem deleteL_ok {u : World} {b n c : Nat} {cs : List Value} (h : Own u 1 (some ⟨b, 0, none⟩) n c cs) (hcs : okCells cs True) {i : Nat} (hi : i < n) (hn : n ≤ 1000) :
    Spec Tryd.prog fn_slices_DeleteL_int_int #[.slice (some ⟨b, 0, none⟩) n c, .int .i64 (i : Nat), .int .i64 ((i : Nat) + 1)] u (InsPost u (some ⟨b, 0, none⟩) (n - 1) (cs.take i ++ cs.drop (i + 1))) := by
  apply vc_slices_DeleteL_int_int_spec
  unfold vc_slices_DeleteL_int_int
  have e2 : (((i : Nat) : Int) + 1).toNat = i + 1 := by omega
  simp only [decide_eq_true_eq, decide_eq_false_iff_not, Bool.not_eq_true', Bool.not_eq_false', Int.toNat_natCast, Int.toNat_zero, Nat.sub_zero, Nat.mul_one, Nat.zero_mul, Nat.zero_add, Nat.add_zero, putSl_some, cut0, e2]
  have hl := h.len
  rw [Nat.mul_one] at hl
  have hle := h.le
  have hd : Ext u (drewW u) := (Upd.refl u).drew
  have hm : i + (n - (i + 1)) = n - 1 := by omega
  have ht := (h.ext hd).takeO (i := i) (by omega)
  have src := (h.ext hd).cutD (i := i + 1) (by omega) (by omega)
  simp only [hm]
  refine ⟨by omega, by omega, by omega, by omega, fun hh => by omega, fun _ => ⟨by omega, by omega, by omega, by omega, by omega, by omega, cs.take i, cs.drop (i + 1), by rw [List.length_take]; omega, ht.gets, by rw [List.length_drop]; omega, src, by decide, by omega, okCells_drop hcs _, fun hc => ht.wrs (by omega), fun p' cap u1 hr => ?_⟩⟩
  obtain ⟨a1, a2, a3⟩ := ht.app hr (by rw [List.length_take]; omega) ht.gets (by rw [List.length_drop]; omega) rfl
  rcases hr with ⟨hc, rfl, rfl, hu1⟩ | ⟨hc, _⟩
  rotate_left
  · omega
  rw [hm] at a1
  have hall : Own u1 1 (some ⟨b, 0, none⟩) n cap (cs.take i ++ cs.drop (i + 1) ++ cs.drop (n - 1)) := by
    have o := (h.ext hd).over (o := i) (ys := cs.drop (i + 1)) (by rw [List.length_drop]; omega)
    have e : i + (cs.drop (i + 1)).length = n - 1 := by rw [List.length_drop]; omega
    rw [e] at o
    rw [hu1]
    simpa [putSl] using o
  have hz : (repl (n - (n - 1)) [.slice none 0 0]).length = 1 := by rw [repl_len]; simp; omega
  have hcut : (if cap = n - 1 then some (Addr.mk b 0 none) else Option.map (fun a => Addr.add a (n - 1)) (some ⟨b, 0, none⟩)) = some ⟨b, n - 1, none⟩ := cutAt1 (by omega)
  rw [hcut]
  simp only [putSl_some, Nat.add_zero]
  have o2 := hall.over (o := n - 1) (ys := repl (n - (n - 1)) [.slice none 0 0]) (by
    rw [hz]
    simp only [List.length_append, List.length_take, List.length_drop]
    omega)
  have hone : repl (n - (n - 1)) [.slice none 0 0] = [.slice none 0 0] := by rw [show n - (n - 1) = 1 by omega]; rfl
  refine ⟨by omega, by omega, by omega, ?_, ⟨fun _ => rfl, by have := (hall.wrs (o := n - 1) (m := n - (n - 1)) (by omega)).2; simpa using this⟩, ⟨_, cap, rfl, ?_, fun k hk => .inl hk⟩, ?_⟩
  · rw [hone]; simp [okCells]
  · have o3 := o2.takeO (i := n - 1) (by omega)
    have el : ((cs.take i ++ cs.drop (i + 1) ++ cs.drop (n - 1)).take (n - 1) ++ repl (n - (n - 1)) [.slice none 0 0] ++ (cs.take i ++ cs.drop (i + 1) ++ cs.drop (n - 1)).drop (n - 1 + (repl (n - (n - 1)) [.slice none 0 0]).length)).take (n - 1) = cs.take i ++ cs.drop (i + 1) := by
      rw [List.append_assoc, List.take_append_of_le_length (by simp only [List.length_append, List.length_take, List.length_drop]; omega), List.take_take, Nat.min_self]
      exact List.take_left' (by simp only [List.length_append, List.length_take, List.length_drop]; omega)
    rw [el] at o3
    exact o3
  · exact (((hd.any (S := At (some ⟨b, 0, none⟩))).trans a2 fun _ _ h => h)).put (fun _ => ⟨_, rfl, rfl⟩) _ _

end Go.Proofs.YtkmmphkjmamckabDoor
