/-
  Texts that belong together, joined: GWalk, GWalk2, GWalk3, GWalk4, GWalk5.
-/
import Derived.Test.YtkmmphkjmamckabDoorZM
import Derived.Test.YtkmmphkjmamckabDoorZVb
import Derived.Test.YtkmmphkjmamckabDoorZB
/-
  The screen's functions: what each answers.
-/
namespace Go.Proofs.YtkmmphkjmamckabDoor
open Go
set_option linter.all false

section
variable {u u' : World} {gb : Nat} {g : Gr} {b c : Nat}
theorem GB.rdWide (h : GB u gb g b c) (hu : Ext u u') : Rd u' gb (0 + 0) [.int .i64 g.wide] := (h.ext hu).blk.rdAt (n := 1) rfl
theorem GB.rdHigh (h : GB u gb g b c) (hu : Ext u u') : Rd u' gb (0 + 1) [.int .i64 g.high] := (h.ext hu).blk.rdAt (n := 1) rfl
theorem GB.rdCells (h : GB u gb g b c) (hu : Ext u u') : Rd u' gb (0 + 2) [.slice (some ⟨b, 0, none⟩) g.cells.length c] := (h.ext hu).blk.rdAt (n := 1) rfl
theorem GB.rdRow (h : GB u gb g b c) (hu : Ext u u') : Rd u' gb (0 + 3) [.int .i64 g.row] := (h.ext hu).blk.rdAt (n := 1) rfl
theorem GB.rdCol (h : GB u gb g b c) (hu : Ext u u') : Rd u' gb (0 + 4) [.int .i64 g.col] := (h.ext hu).blk.rdAt (n := 1) rfl
theorem GB.rdInk (h : GB u gb g b c) (hu : Ext u u') : Rd u' gb (0 + 5) [.int .i64 g.ink] := (h.ext hu).blk.rdAt (n := 1) rfl
theorem GB.rdBold (h : GB u gb g b c) (hu : Ext u u') : Rd u' gb (0 + 6) [.bool g.bold] := (h.ext hu).blk.rdAt (n := 1) rfl
theorem GB.rdTop (h : GB u gb g b c) (hu : Ext u u') : Rd u' gb (0 + 7) [.int .i64 g.top] := (h.ext hu).blk.rdAt (n := 1) rfl
theorem GB.rdBottom (h : GB u gb g b c) (hu : Ext u u') : Rd u' gb (0 + 8) [.int .i64 g.bottom] := (h.ext hu).blk.rdAt (n := 1) rfl
theorem GB.rdAll (h : GB u gb g b c) (hu : Ext u u') : Rd u' gb 0 (grV g (some ⟨b, 0, none⟩) g.cells.length c) := (h.ext hu).blk.rdAt (n := 9) rfl
end

theorem map_add (b o k : Nat) : Option.map (fun a => Addr.add a k) (some ⟨b, o, none⟩) = some ⟨b, o + k, none⟩ := by
  show some (Addr.add ⟨b, o, none⟩ k) = _
  rw [addr_add]

theorem GB.back {u u' : World} {gb : Nat} {g : Gr} {b c : Nat} {l : List Cl} (h : GB u gb g b c) (hu : Upd (· = b) u u') (ho : CO u' b c l) (hl : l.length = g.cells.length) : GB u' gb { g with cells := l } b c := by
  refine ⟨?_, ho, h.ne⟩
  show Blk _ gb (grV g _ l.length c)
  rw [hl]
  exact h.blk.upd hu h.ne.symm

theorem row_facts {g : Gr} (hg : GoodG g) {r : Int} (h0 : 0 ≤ r) (h1 : r ≤ g.high) : 0 ≤ r * g.wide ∧ r * g.wide ≤ (g.cells.length : Int) ∧ r * g.wide ≤ 240 ∧ (r * g.wide).toNat = r.toNat * g.wide.toNat := by
  have w1 := hg.w1
  have w2 := hg.w2
  have h2 := hg.h2
  have a : 0 ≤ r * g.wide := Int.mul_nonneg h0 (by omega)
  have b : r * g.wide ≤ g.high * g.wide := Int.mul_le_mul_of_nonneg_right h1 (by omega)
  have e : g.high * g.wide ≤ 10 * g.wide := Int.mul_le_mul_of_nonneg_right h2 (by omega)
  have l := hg.len
  rw [Int.mul_comm] at l
  refine ⟨a, by omega, by omega, ?_⟩
  obtain ⟨w, hw⟩ : ∃ w : Nat, g.wide = w := ⟨g.wide.toNat, by omega⟩
  obtain ⟨q, hq⟩ : ∃ q : Nat, r = q := ⟨r.toNat, by omega⟩
  rw [hw, hq]
  simp only [Int.toNat_natCast]
  rw [show (q : Int) * w = ((q * w : Nat) : Int) by simp, Int.toNat_natCast]

theorem few_cells {g : Gr} (hg : GoodG g) : g.cells.length ≤ 240 := by
  have := row_facts hg (r := g.high) (by have := hg.h1; omega) (Int.le_refl _)
  have l := hg.len
  rw [Int.mul_comm] at l
  omega

theorem succ_mul' (r w : Int) : (r + 1) * w = r * w + w := by rw [Int.add_mul, Int.one_mul]
theorem pred_mul' (r w : Int) : (r - 1) * w = r * w - w := by rw [Int.sub_mul, Int.one_mul]

theorem row_ok {u : World} {gb : Nat} {g : Gr} {b c : Nat} (h : GB u gb g b c) (hg : GoodG g) {r : Int} (h0 : 0 ≤ r) (h1 : r < g.high) :
    Spec Tryd.prog fn_grid_row #[.pointer (some ⟨gb, 0, none⟩), .int .i64 r] u fun e u' => ∃ c', e = .returned (.slice (some ⟨b, 0 + (r * g.wide).toNat * 4, none⟩) g.wide.toNat c') ∧ Ext u u' := by
  apply vc_grid_row_spec
  unfold vc_grid_row
  have hu : Ext u (drewW u) := (Upd.refl u).drew
  have f0 := row_facts hg h0 (by omega)
  have f1 := row_facts hg (r := r + 1) (by omega) (by omega)
  have w1 := hg.w1
  have hc := h.own.le
  have hfew := few_cells hg
  have e := succ_mul' r g.wide
  rw [e] at f1
  refine ⟨_, _, _, rfl, h.rdCells hu, _, rfl, h.rdWide hu, by simp only [inK]; omega, by have := hg.h2; simp only [inK]; omega, _, rfl, h.rdWide hu, ?_⟩
  rw [e]
  refine ⟨by simp only [inK]; omega, f0.1, by omega, by omega, c - (r * g.wide).toNat, ?_, hu⟩
  rw [if_neg (by omega), show (r * g.wide + g.wide).toNat - (r * g.wide).toNat = g.wide.toNat by omega, map_add]

theorem wipe_ok {u : World} {b c : Nat} {l : List Cl} (h : CO u b c l) (hl : l.length ≤ 100000000) {i n cc : Nat} (hn : i + n ≤ l.length) :
    Spec Tryd.prog fn_grid_wipe #[.slice (some ⟨b, 0 + i * 4, none⟩) n cc] u fun e u' => e = .returned (.tuple #[]) ∧ CO u' b c (eraseC i (i + n) l) ∧ Upd (· = b) u u' := by
  apply vc_grid_wipe_spec
  unfold vc_grid_wipe
  refine ⟨fun x u1 => ∃ l', CO u1 b c l' ∧ l'.length = l.length ∧ (∀ j, j < l.length → cg l' j = if i ≤ j ∧ j < i + x.toNat then .z else cg l j) ∧ Upd (· = b) u u1 ∧ 0 ≤ x ∧ x ≤ n, fun x _ => (n - x).toNat,
    ⟨l, h, rfl, fun j _ => by rw [if_neg (by omega)], Upd.refl _, by omega, by omega⟩, fun x u1 ⟨l', h1, h2, h3, h4, h5, h6⟩ => ⟨fun hx => ?_, fun hx => ?_⟩⟩
  · have hx' : x < n := by simpa using hx
    have hi : i + x.toNat < l'.length := by omega
    have hp := h1.set .z hi (o := 0 + i * 4 + x.toNat * 4) (by omega)
    refine ⟨b, _, rfl, h5, hx', rfl, h1.wr (by omega), by simp only [inK]; omega, ⟨_, hp, by rw [List.length_set, h2], fun j hj => ?_, h4.trans (upd_put _ _ _) fun _ _ h => h, by omega, by omega⟩, by dsimp only; omega⟩
    rw [cg_set hi, h3 j hj]
    by_cases e : j = i + x.toNat
    · rw [if_pos e, if_pos (by omega)]
    · rw [if_neg e]
      congr 1
      apply propext
      omega
  · have hx' : ¬ x < n := by simpa using hx
    refine ⟨rfl, ?_, h4⟩
    have : l' = eraseC i (i + n) l := by
      refine cg_ext (by rw [h2, eraseC_len]) fun j hj => ?_
      rw [h3 j (by omega), erase_cg (by omega), show x.toNat = n by omega]
    rw [← this]
    exact h1

/-- A part of one's own cells, as a slice of them. -/
theorem CO.cut {u : World} {b c : Nat} {l : List Cl} (h : CO u b c l) {i k : Nat} (hik : i + k ≤ l.length) : Gets u (if c = i then some ⟨b, 0, none⟩ else Option.map (fun a => Addr.add a (i * 4)) (some ⟨b, 0, none⟩)) (cellsV ((l.drop i).take k)) := by
  have hl := h.le
  split
  · next e =>
    have hk : k = 0 := by omega
    subst hk
    simp only [List.take_zero]
    exact gets_nil u _
  · rw [map_add]; exact (h.cells.sub hik).gets

theorem up_cells {w fr to : Nat} (hw : 0 < w) (h : fr < to) {l : List Cl} (hl : to * w ≤ l.length) :
    eraseC ((to - 1) * w) ((to - 1) * w + w) (overC l (fr * w) ((l.drop ((fr + 1) * w)).take (to * w - (fr + 1) * w))) = rollC w fr to 1 l := by
  have e1 : (fr + 1) * w = fr * w + w := by rw [Nat.add_mul, Nat.one_mul]
  have e2 : (to - 1) * w + w = to * w := by rw [Nat.sub_mul, Nat.one_mul]; have := Nat.mul_le_mul_right w (show 1 ≤ to by omega); omega
  have e3 : fr * w + w ≤ to * w := by rw [← e1]; exact Nat.mul_le_mul_right w h
  have hm : ((l.drop ((fr + 1) * w)).take (to * w - (fr + 1) * w)).length = to * w - (fr + 1) * w := by rw [List.length_take, List.length_drop]; omega
  have hov : fr * w + ((l.drop ((fr + 1) * w)).take (to * w - (fr + 1) * w)).length ≤ l.length := by rw [hm]; omega
  refine cg_ext (by rw [eraseC_len, rollC_len, overC_len hov]) fun j hj => ?_
  rw [eraseC_len, overC_len hov] at hj
  rw [erase_cg (by rw [overC_len hov]; exact hj), roll_cg hj, overC_cg hov, hm, e2]
  have d1 : j / w < fr ↔ j < fr * w := div_lt hw
  have d2 : to ≤ j / w ↔ to * w ≤ j := le_div hw
  have d3 : j / w < to - 1 ↔ j < (to - 1) * w := div_lt hw
  rw [e1]
  by_cases c1 : (to - 1) * w ≤ j ∧ j < to * w
  · rw [if_pos c1, if_neg (by omega), if_neg (by omega)]
  · rw [if_neg c1]
    by_cases c2 : fr * w ≤ j ∧ j < fr * w + (to * w - (fr * w + w))
    · rw [if_pos c2, if_neg (by omega), if_pos (by omega), cg_take (by omega), cg_drop]
      congr 1
      omega
    · rw [if_neg c2, if_pos (by omega)]

theorem down_cells {w fr to : Nat} (hw : 0 < w) (h : fr < to) {l : List Cl} (hl : to * w ≤ l.length) :
    eraseC (fr * w) (fr * w + w) (overC l ((fr + 1) * w) ((l.drop (fr * w)).take ((to - 1) * w - fr * w))) = rollC w fr to (-1) l := by
  have e1 : (fr + 1) * w = fr * w + w := by rw [Nat.add_mul, Nat.one_mul]
  have e2 : (to - 1) * w + w = to * w := by rw [Nat.sub_mul, Nat.one_mul]; have := Nat.mul_le_mul_right w (show 1 ≤ to by omega); omega
  have e3 : fr * w + w ≤ to * w := by rw [← e1]; exact Nat.mul_le_mul_right w h
  have hm : ((l.drop (fr * w)).take ((to - 1) * w - fr * w)).length = (to - 1) * w - fr * w := by rw [List.length_take, List.length_drop]; omega
  have hov : (fr + 1) * w + ((l.drop (fr * w)).take ((to - 1) * w - fr * w)).length ≤ l.length := by rw [hm]; omega
  refine cg_ext (by rw [eraseC_len, rollC_len, overC_len hov]) fun j hj => ?_
  rw [eraseC_len, overC_len hov] at hj
  rw [erase_cg (by rw [overC_len hov]; exact hj), roll_cg hj, overC_cg hov, hm, e1]
  have d1 : j / w < fr ↔ j < fr * w := div_lt hw
  have d2 : to ≤ j / w ↔ to * w ≤ j := le_div hw
  have d3 : j / w < fr + 1 ↔ j < (fr + 1) * w := div_lt hw
  rw [e1] at d3
  by_cases c1 : fr * w ≤ j ∧ j < fr * w + w
  · rw [if_pos c1, if_neg (by omega), if_neg (by omega)]
  · rw [if_neg c1]
    by_cases c2 : fr * w + w ≤ j ∧ j < fr * w + w + ((to - 1) * w - fr * w)
    · rw [if_pos c2, if_neg (by omega), if_pos (by omega), cg_take (by omega), cg_drop]
      congr 1
      omega
    · rw [if_neg c2, if_pos (by omega)]

theorem up_ok {u : World} {gb : Nat} {g : Gr} {b c : Nat} (h : GB u gb g b c) (hg : GoodG g) {fr to : Int} (h0 : 0 ≤ fr) (h1 : fr < to) (h2 : to ≤ g.high) :
    Spec Tryd.prog fn_grid_up #[.pointer (some ⟨gb, 0, none⟩), .int .i64 fr, .int .i64 to] u fun e u' => e = .returned (.tuple #[]) ∧ GB u' gb (rollG g fr to 1) b c ∧ Upd (· = b) u u' := by
  apply vc_grid_up_spec
  unfold vc_grid_up
  have hu : Ext u (drewW u) := (Upd.refl u).drew
  have hd := h.ext hu
  have w1 := hg.w1
  have hh2 := hg.h2
  have f0 := row_facts hg h0 (by omega)
  have f1 := row_facts hg (r := fr + 1) (by omega) (by omega)
  have f2 := row_facts hg (r := to) (by omega) h2
  have f3 := row_facts hg (r := to - 1) (by omega) (by omega)
  have hc := h.own.le
  have hfew := few_cells hg
  have e1 := succ_mul' fr g.wide
  have e3 := pred_mul' to g.wide
  have hle : fr * g.wide + g.wide ≤ to * g.wide := by
    rw [← e1]; exact Int.mul_le_mul_of_nonneg_right (by omega) (by omega)
  have hm : min ((to * g.wide).toNat - ((fr + 1) * g.wide).toNat) (((g.cells.length : Nat) : Int).toNat - (fr * g.wide).toNat) = to.toNat * g.wide.toNat - (fr.toNat + 1) * g.wide.toNat := by
    rw [e1] at f1 ⊢
    have : (fr + 1).toNat = fr.toNat + 1 := by omega
    rw [this] at f1
    rw [← f1.2.2.2, ← f2.2.2.2]
    omega
  have hn : (fr.toNat + 1) * g.wide.toNat = ((fr + 1) * g.wide).toNat := by rw [f1.2.2.2]; congr 1; omega
  have hcut := hd.own.cut (i := ((fr + 1) * g.wide).toNat) (k := to.toNat * g.wide.toNat - (fr.toNat + 1) * g.wide.toNat) (by rw [hn, ← f2.2.2.2]; omega)
  have hlen : ((g.cells.drop ((fr + 1) * g.wide).toNat).take (to.toNat * g.wide.toNat - (fr.toNat + 1) * g.wide.toNat)).length = to.toNat * g.wide.toNat - (fr.toNat + 1) * g.wide.toNat := by
    rw [List.length_take, List.length_drop, hn, ← f2.2.2.2]; omega
  refine ⟨_, _, _, rfl, h.rdCells hu, _, rfl, h.rdWide hu, by simp only [inK]; omega, f0.1, by omega, by omega, _, _, _, rfl, h.rdCells hu, by simp only [inK]; omega, _, rfl, h.rdWide hu, by simp only [inK]; omega, _, rfl, h.rdWide hu, by simp only [inK]; omega, f1.1, by omega, by omega,
    cellsV ((g.cells.drop ((fr + 1) * g.wide).toNat).take (to.toNat * g.wide.toNat - (fr.toNat + 1) * g.wide.toNat)), by rw [cellsV_len, hlen, hm], hcut, (cellsV_ok _ _).2 trivial, ?_, by simp only [inK]; omega, ?_⟩
  · rw [if_neg (by omega), hm, map_add]
    refine ⟨fun _ => rfl, hd.own.wr ?_⟩
    show 0 + (fr * g.wide).toNat * 4 + 0 + _ ≤ _
    rw [hn, ← f2.2.2.2]
    omega
  · rw [if_neg (by omega), map_add]
    have hp := hd.cells (i := (fr * g.wide).toNat) (m := (g.cells.drop ((fr + 1) * g.wide).toNat).take (to.toNat * g.wide.toNat - (fr.toNat + 1) * g.wide.toNat)) (o := 0 + (fr * g.wide).toNat * 4 + 0) (by rw [hlen, hn, ← f2.2.2.2]; omega) (by omega)
    have hup := upd_put (u := drewW u) b (0 + (fr * g.wide).toNat * 4 + 0) (cellsV ((g.cells.drop ((fr + 1) * g.wide).toNat).take (to.toNat * g.wide.toNat - (fr.toNat + 1) * g.wide.toNat)))
    have hl2 : (overC g.cells (fr * g.wide).toNat ((g.cells.drop ((fr + 1) * g.wide).toNat).take (to.toNat * g.wide.toNat - (fr.toNat + 1) * g.wide.toNat))).length = g.cells.length := overC_len (by rw [hlen, hn, ← f2.2.2.2]; omega)
    have hg2 : GoodG { g with cells := overC g.cells (fr * g.wide).toNat ((g.cells.drop ((fr + 1) * g.wide).toNat).take (to.toNat * g.wide.toNat - (fr.toNat + 1) * g.wide.toNat)) } := hg.cellsWith hl2 fun x hx => by
      obtain ⟨j, hj, rfl⟩ := mem_cg hx
      rw [overC_cg (by rw [hlen, hn, ← f2.2.2.2]; omega)]
      split
      · rcases Nat.lt_or_ge (j - (fr * g.wide).toNat) ((g.cells.drop ((fr + 1) * g.wide).toNat).take (to.toNat * g.wide.toNat - (fr.toNat + 1) * g.wide.toNat)).length with hh | hh
        · exact hg.all _ (List.mem_of_mem_drop (List.mem_of_mem_take (cg_mem hh)))
        · rw [cg_out hh]; rfl
      · exact AllG.cg hg.all _
    refine (row_ok hp hg2 (r := to - 1) (by omega) (by show to - 1 < g.high; omega)).mono fun e u1 ⟨c', he, hu1⟩ => ⟨_, _, _, he, ?_⟩
    have hp1 := hp.ext hu1
    refine (wipe_ok hp1.own (by rw [hl2]; omega) (i := ((to - 1) * g.wide).toNat) (n := g.wide.toNat) (by rw [hl2]; omega)).mono fun e u2 ⟨he, ho, hu2⟩ => ⟨he, rfl, ?_, (((hu.any (S := (· = b))).trans hup fun _ _ h => h).ext hu1).trans hu2 fun _ _ h => h⟩
    have hb := hp1.back hu2 ho (by rw [eraseC_len])
    have hcells := up_cells (w := g.wide.toNat) (fr := fr.toNat) (to := to.toNat) (l := g.cells) (by omega) (by omega) (by rw [← f2.2.2.2]; omega)
    have heq : rollG g fr to 1 = { g with cells := eraseC ((to - 1) * g.wide).toNat (((to - 1) * g.wide).toNat + g.wide.toNat) (overC g.cells (fr * g.wide).toNat ((g.cells.drop ((fr + 1) * g.wide).toNat).take (to.toNat * g.wide.toNat - (fr.toNat + 1) * g.wide.toNat))) } := by
      unfold rollG
      rw [← hcells, f3.2.2.2, f0.2.2.2, hn, show (to - 1).toNat = to.toNat - 1 by omega]
    rw [heq]
    exact hb

theorem down_ok {u : World} {gb : Nat} {g : Gr} {b c : Nat} (h : GB u gb g b c) (hg : GoodG g) {fr to : Int} (h0 : 0 ≤ fr) (h1 : fr < to) (h2 : to ≤ g.high) :
    Spec Tryd.prog fn_grid_down #[.pointer (some ⟨gb, 0, none⟩), .int .i64 fr, .int .i64 to] u fun e u' => e = .returned (.tuple #[]) ∧ GB u' gb (rollG g fr to (-1)) b c ∧ Upd (· = b) u u' := by
  apply vc_grid_down_spec
  unfold vc_grid_down
  have hu : Ext u (drewW u) := (Upd.refl u).drew
  have hd := h.ext hu
  have w1 := hg.w1
  have hh2 := hg.h2
  have f0 := row_facts hg h0 (by omega)
  have f1 := row_facts hg (r := fr + 1) (by omega) (by omega)
  have f2 := row_facts hg (r := to) (by omega) h2
  have f3 := row_facts hg (r := to - 1) (by omega) (by omega)
  have hc := h.own.le
  have hfew := few_cells hg
  have e1 := succ_mul' fr g.wide
  have e3 := pred_mul' to g.wide
  have hle : fr * g.wide + g.wide ≤ to * g.wide := by
    rw [← e1]; exact Int.mul_le_mul_of_nonneg_right (by omega) (by omega)
  have hn1 : (fr.toNat + 1) * g.wide.toNat = ((fr + 1) * g.wide).toNat := by rw [f1.2.2.2]; congr 1; omega
  have hn3 : (to.toNat - 1) * g.wide.toNat = ((to - 1) * g.wide).toNat := by rw [f3.2.2.2]; congr 1; omega
  have hm : min (((to - 1) * g.wide).toNat - (fr * g.wide).toNat) ((to * g.wide).toNat - ((fr + 1) * g.wide).toNat) = ((to - 1) * g.wide).toNat - (fr * g.wide).toNat := by omega
  have hik : (fr * g.wide).toNat + (((to - 1) * g.wide).toNat - (fr * g.wide).toNat) ≤ g.cells.length := by omega
  have hcut := hd.own.cut hik
  have hlen : ((g.cells.drop (fr * g.wide).toNat).take (((to - 1) * g.wide).toNat - (fr * g.wide).toNat)).length = ((to - 1) * g.wide).toNat - (fr * g.wide).toNat := by
    rw [List.length_take, List.length_drop]; omega
  have hov : ((fr + 1) * g.wide).toNat + ((g.cells.drop (fr * g.wide).toNat).take (((to - 1) * g.wide).toNat - (fr * g.wide).toNat)).length ≤ g.cells.length := by rw [hlen]; omega
  have hl2 := overC_len hov
  have hg2 : GoodG { g with cells := overC g.cells ((fr + 1) * g.wide).toNat ((g.cells.drop (fr * g.wide).toNat).take (((to - 1) * g.wide).toNat - (fr * g.wide).toNat)) } := hg.cellsWith hl2 fun x hx => by
    obtain ⟨j, hj, rfl⟩ := mem_cg hx
    rw [overC_cg hov]
    split
    · rcases Nat.lt_or_ge (j - ((fr + 1) * g.wide).toNat) ((g.cells.drop (fr * g.wide).toNat).take (((to - 1) * g.wide).toNat - (fr * g.wide).toNat)).length with hh | hh
      · exact hg.all _ (List.mem_of_mem_drop (List.mem_of_mem_take (cg_mem hh)))
      · rw [cg_out hh]; rfl
    · exact AllG.cg hg.all _
  -- what follows, where the cells were copied
  have rest : ∀ v : World, GB v gb { g with cells := overC g.cells ((fr + 1) * g.wide).toNat ((g.cells.drop (fr * g.wide).toNat).take (((to - 1) * g.wide).toNat - (fr * g.wide).toNat)) } b c → Upd (· = b) u v →
      Spec Tryd.prog fn_grid_row #[.pointer (some ⟨gb, 0, none⟩), .int .i64 fr] v (fun e u1 => ∃ (x45_p : Option Addr) (x45_n x45_c : Nat), e = .returned (.slice x45_p x45_n x45_c) ∧
      Spec Tryd.prog fn_grid_wipe #[.slice x45_p x45_n x45_c] u1 (fun e u11 => e = .returned (.tuple #[]) ∧ (Ending.returned (.tuple #[]) = .returned (.tuple #[]) ∧ GB u11 gb (rollG g fr to (-1)) b c ∧ Upd (· = b) u u11))) := fun v hp hv => by
    refine (row_ok hp hg2 (r := fr) (by omega) (by show fr < g.high; omega)).mono fun e u1 ⟨c', he, hu1⟩ => ⟨_, _, _, he, ?_⟩
    have hp1 := hp.ext hu1
    refine (wipe_ok hp1.own (by rw [hl2]; omega) (i := (fr * g.wide).toNat) (n := g.wide.toNat) (by rw [hl2]; omega)).mono fun e u2 ⟨he, ho, hu2⟩ => ⟨he, rfl, ?_, (hv.ext hu1).trans hu2 fun _ _ h => h⟩
    have hb := hp1.back hu2 ho (by rw [eraseC_len])
    have hcells := down_cells (w := g.wide.toNat) (fr := fr.toNat) (to := to.toNat) (l := g.cells) (by omega) (by omega) (by rw [← f2.2.2.2]; omega)
    have heq : rollG g fr to (-1) = { g with cells := eraseC (fr * g.wide).toNat ((fr * g.wide).toNat + g.wide.toNat) (overC g.cells ((fr + 1) * g.wide).toNat ((g.cells.drop (fr * g.wide).toNat).take (((to - 1) * g.wide).toNat - (fr * g.wide).toNat))) } := by
      unfold rollG
      rw [← hcells, ← hn1, ← hn3, f0.2.2.2]
    rw [heq]
    exact hb
  refine ⟨_, _, _, rfl, h.rdCells hu, by simp only [inK]; omega, _, rfl, h.rdWide hu, by simp only [inK]; omega, _, rfl, h.rdWide hu, by simp only [inK]; omega, f1.1, by omega, by omega, _, _, _, rfl, h.rdCells hu, _, rfl, h.rdWide hu, by simp only [inK]; omega, by simp only [inK]; omega, _, rfl, h.rdWide hu, by simp only [inK]; omega, f0.1, by omega, by omega,
    cellsV ((g.cells.drop (fr * g.wide).toNat).take (((to - 1) * g.wide).toNat - (fr * g.wide).toNat)), by rw [cellsV_len, hlen, hm], hcut, (cellsV_ok _ _).2 trivial, ?_, ?_⟩
  · rw [hm]
    split
    · next e =>
      have : ((to - 1) * g.wide).toNat - (fr * g.wide).toNat = 0 := by omega
      rw [this]
      exact ⟨fun h => absurd rfl h, fun j hj => by omega⟩
    · rw [map_add]
      refine ⟨fun _ => rfl, hd.own.wr ?_⟩
      show 0 + ((fr + 1) * g.wide).toNat * 4 + 0 + _ ≤ _
      omega
  · split
    · next e =>
      have hz : ((to - 1) * g.wide).toNat - (fr * g.wide).toNat = 0 := by omega
      refine rest _ ?_ ?_
      · rw [hz, List.take_zero]
        show GB (drewW u) gb _ b c
        have : overC g.cells ((fr + 1) * g.wide).toNat [] = g.cells := by simp [overC]
        rw [this]
        exact hd
      · rw [hz, List.take_zero]
        exact hu.any
    · rw [map_add]
      exact rest _ (hd.cells (o := 0 + ((fr + 1) * g.wide).toNat * 4 + 0) hov (by omega)) ((hu.any (S := (· = b))).trans (upd_put _ _ _) fun _ _ h => h)

end Go.Proofs.YtkmmphkjmamckabDoor

/-
  The screen's functions, on: a row on, a byte shown, control bytes, erasing, ink, numbers.
-/
namespace Go.Proofs.YtkmmphkjmamckabDoor
open Go
set_option linter.all false

/-- A screen's two blocks. -/
def UB (gb b : Nat) (k : Nat) : Prop := k = gb ∨ k = b

theorem UB.cells {gb b : Nat} {u u' : World} (h : Upd (· = b) u u') : Upd (UB gb b) u u' := h.mono fun _ _ h => .inr h
theorem UB.self {gb b : Nat} {u u' : World} (h : Upd (· = gb) u u') : Upd (UB gb b) u u' := h.mono fun _ _ h => .inl h
theorem UB.trans {gb b : Nat} {u v w : World} (h : Upd (UB gb b) u v) (k : Upd (UB gb b) v w) : Upd (UB gb b) u w := Upd.trans h k fun _ _ h => h
theorem UB.putS {gb b : Nat} {u v : World} (h : Upd (UB gb b) u v) (o : Nat) (ys : List Value) : Upd (UB gb b) u (putCells v gb o ys) := h.trans (UB.self (upd_put gb o ys)) fun _ _ h => h
theorem UB.putC {gb b : Nat} {u v : World} (h : Upd (UB gb b) u v) (o : Nat) (ys : List Value) : Upd (UB gb b) u (putCells v b o ys) := h.trans (UB.cells (upd_put b o ys)) fun _ _ h => h

/-- A function that changes a screen of its caller's has ended. -/
structure GDone (u : World) (gb b c : Nat) (g : Gr) (e : Ending) (u' : World) : Prop where
  e : e = .returned (.tuple #[])
  scr : GB u' gb g b c
  upd : Upd (UB gb b) u u'

theorem gfeed_ok {u : World} {gb : Nat} {g : Gr} {b c : Nat} (h : GB u gb g b c) (hg : GoodG g) :
    Spec Tryd.prog fn_grid_feed #[.pointer (some ⟨gb, 0, none⟩)] u (GDone u gb b c (feedG g)) := by
  apply vc_grid_feed_spec
  unfold vc_grid_feed
  simp only [decide_eq_true_eq, decide_eq_false_iff_not]
  have hu : Ext u (drewW u) := (Upd.refl u).drew
  have hu2 : Ext u (drewW (drewW u)) := hu.drew
  have h2 := h.ext hu2
  have := hg.b2
  have := hg.h2
  have := hg.t1
  have := hg.t2
  have := hg.r1
  have := hg.r2
  refine ⟨_, rfl, h.rdRow hu, _, rfl, h.rdBottom hu, by simp only [inK]; omega, fun hx => ⟨_, rfl, h.rdTop hu2, _, rfl, h.rdBottom hu2, ?_⟩, fun hx => ⟨_, rfl, h.rdRow hu2, _, rfl, h.rdHigh hu2, by simp only [inK]; omega, fun hy => ⟨_, rfl, h.rdRow hu2, by simp only [inK]; omega, rfl, h2.wr (by omega), rfl, ?_, ?_⟩, fun hy => ⟨rfl, ?_, hu2.any⟩⟩⟩
  · refine (up_ok h2 hg hg.t1 hg.t2 hg.b2).mono fun e u1 ⟨he, hb, hu1⟩ => ⟨he, rfl, ?_, hu2.any.trans (UB.cells hu1) fun _ _ h => h⟩
    unfold feedG
    rw [if_pos hx]
    exact hb
  · unfold feedG
    rw [if_neg hx, if_pos hy]
    exact h2.put (g' := { g with row := g.row + 1 }) rfl rfl
  · exact UB.putS hu2.any _ _
  · unfold feedG
    rw [if_neg hx, if_neg hy]
    exact h2

theorem gshow_ok {u : World} {gb : Nat} {g : Gr} {b c : Nat} (h : GB u gb g b c) (hg : GoodG g) {ch : Int} :
    Spec Tryd.prog fn_grid_show #[.pointer (some ⟨gb, 0, none⟩), .int .i64 ch] u (GDone u gb b c (showG g ch)) := by
  apply vc_grid_show_spec
  unfold vc_grid_show
  simp only [decide_eq_true_eq, decide_eq_false_iff_not]
  have hu : Ext u (drewW u) := (Upd.refl u).drew
  have hd := h.ext hu
  have hw1 := hg.w1
  have hc2 := hg.c2
  refine ⟨_, rfl, h.rdCol hu, _, rfl, h.rdWide hu, fun hx => ⟨rfl, hd.wr (by omega), ?_⟩, fun hx => ?_⟩
  · have hp := hd.put (g' := { g with col := 0 }) (o := 0 + 4) (ys := [.int .i64 0]) rfl rfl
    have hg0 := hg.col (c := 0) (by omega)
    refine (gfeed_ok hp hg0).mono fun e u1 ⟨he, X, hu1⟩ => ⟨he, ?_⟩
    have f := feed_ok' hg0
    simp only at f
    have hv : Upd (UB gb b) u u1 := UB.trans (UB.putS hu.any _ _) hu1
    have heq : showG g ch = { feedG { g with col := 0 } with cells := (feedG { g with col := 0 }).cells.set ((feedG { g with col := 0 }).row * (feedG { g with col := 0 }).wide + (feedG { g with col := 0 }).col).toNat ⟨ch, (feedG { g with col := 0 }).ink, 0, (feedG { g with col := 0 }).bold⟩, col := (feedG { g with col := 0 }).col + 1 } := by
      unfold showG
      rw [if_pos hx]
    have hcw : (feedG { g with col := 0 }).col < (feedG { g with col := 0 }).wide := by rw [f.2.2.2.1, f.2.1]; omega
    rw [heq]
    have Xg := f.1
    generalize feedG { g with col := 0 } = x at X Xg hcw
    clear f heq hp
    have hd : Ext u1 (drewW u1) := (Upd.refl u1).drew
    have r1 := row_facts Xg Xg.r1 (by have := Xg.r2; omega)
    have r2 := row_facts Xg (r := x.row + 1) (by have := Xg.r1; omega) (by have := Xg.r2; omega)
    rw [succ_mul'] at r2
    have xc := Xg.c1
    have xw := Xg.w2
    refine ⟨_, rfl, X.rdRow hd, _, rfl, X.rdCol hd, _, rfl, X.rdInk hd, _, rfl, X.rdBold hd, ?_⟩
    refine (row_ok (X.ext hd) Xg Xg.r1 Xg.r2).mono fun e u2 ⟨c', he, hu2⟩ => ⟨_, _, _, he, X.rdBold (hd.ext hu2), X.rdInk (hd.ext hu2), X.rdCol (hd.ext hu2), b, _, rfl, xc, by omega, rfl, ?_, ?_⟩
    · exact (X.ext (hd.ext hu2)).own.wr (by omega)
    · have Y := (X.ext (hd.ext hu2)).cell ⟨ch, x.ink, 0, x.bold⟩ (i := (x.row * x.wide + x.col).toNat) (o := 0 + (x.row * x.wide).toNat * 4 + x.col.toNat * 4) (by omega) (by omega)
      have hY : Upd (UB gb b) u _ := UB.putC (UB.trans hv (hd.ext hu2).any) (0 + (x.row * x.wide).toNat * 4 + x.col.toNat * 4) (clV ⟨ch, x.ink, 0, x.bold⟩)
      exact ⟨_, rfl, Y.rdCol (Upd.refl _), by simp only [inK]; omega, rfl, Y.wr (by omega), rfl, Y.put (g' := { x with cells := x.cells.set (x.row * x.wide + x.col).toNat ⟨ch, x.ink, 0, x.bold⟩, col := x.col + 1 }) rfl rfl, UB.putS hY _ _⟩
  · have heq : showG g ch = { g with cells := g.cells.set (g.row * g.wide + g.col).toNat ⟨ch, g.ink, 0, g.bold⟩, col := g.col + 1 } := by
      unfold showG
      rw [if_neg hx]
    rw [heq]
    have hcw : g.col < g.wide := by omega
    have hd : Ext u (drewW (drewW u)) := hu.drew
    have r1 := row_facts hg hg.r1 (by have := hg.r2; omega)
    have r2 := row_facts hg (r := g.row + 1) (by have := hg.r1; omega) (by have := hg.r2; omega)
    rw [succ_mul'] at r2
    have xc := hg.c1
    have xw := hg.w2
    refine ⟨_, rfl, h.rdRow hd, _, rfl, h.rdCol hd, _, rfl, h.rdInk hd, _, rfl, h.rdBold hd, ?_⟩
    refine (row_ok (h.ext hd) hg hg.r1 hg.r2).mono fun e u2 ⟨c', he, hu2⟩ => ⟨_, _, _, he, h.rdBold (hd.ext hu2), h.rdInk (hd.ext hu2), h.rdCol (hd.ext hu2), b, _, rfl, xc, by omega, rfl, ?_, ?_⟩
    · exact (h.ext (hd.ext hu2)).own.wr (by omega)
    · have Y := (h.ext (hd.ext hu2)).cell ⟨ch, g.ink, 0, g.bold⟩ (i := (g.row * g.wide + g.col).toNat) (o := 0 + (g.row * g.wide).toNat * 4 + g.col.toNat * 4) (by omega) (by omega)
      have hY : Upd (UB gb b) u _ := UB.putC ((hd.ext hu2).any) (0 + (g.row * g.wide).toNat * 4 + g.col.toNat * 4) (clV ⟨ch, g.ink, 0, g.bold⟩)
      exact ⟨_, rfl, Y.rdCol (Upd.refl _), by simp only [inK]; omega, rfl, Y.wr (by omega), rfl, Y.put (g' := { g with cells := g.cells.set (g.row * g.wide + g.col).toNat ⟨ch, g.ink, 0, g.bold⟩, col := g.col + 1 }) rfl rfl, UB.putS hY _ _⟩

theorem control_ok {u : World} {gb : Nat} {g : Gr} {b c : Nat} (h : GB u gb g b c) (hg : GoodG g) {ch : Int} :
    Spec Tryd.prog fn_grid_control #[.pointer (some ⟨gb, 0, none⟩), .int .i64 ch] u (GDone u gb b c (controlG g ch)) := by
  apply vc_grid_control_spec
  unfold vc_grid_control
  simp only [decide_eq_true_eq, decide_eq_false_iff_not]
  have hu : Ext u (drewW u) := (Upd.refl u).drew
  have hd := h.ext hu
  have hw1 := hg.w1
  have hw2 := hg.w2
  have hc1 := hg.c1
  have hc2 := hg.c2
  unfold controlG
  refine ⟨fun h8 => ?_, fun h8 => ⟨fun h9 => ?_, fun h9 => ⟨fun h10 => ?_, fun h10 => ⟨fun h13 => ?_, fun h13 => ?_⟩⟩⟩⟩
  · rw [if_pos h8]
    exact ⟨_, rfl, h.rdCol hu, _, rfl, h.rdWide hu, by simp only [inK]; omega, by simp only [inK]; omega, rfl, hd.wr (by omega), rfl, hd.put (g' := { g with col := max 0 (min g.col (g.wide - 1) - 1) }) rfl rfl, UB.putS hu.any _ _⟩
  · rw [if_neg h8, if_pos h9]
    exact ⟨_, rfl, h.rdWide hu, by simp only [inK]; omega, _, rfl, h.rdCol hu, hc1, by omega, by simp only [inK]; omega, by simp only [inK]; omega, by simp only [inK]; omega, rfl, hd.wr (by omega), rfl, hd.put (g' := { g with col := min (g.wide - 1) (g.col / 8 * 8 + 8) }) rfl rfl, UB.putS hu.any _ _⟩
  · rw [if_neg h8, if_neg h9, if_pos h10]
    exact (gfeed_ok h hg).mono fun e u1 ⟨he, hb, hu1⟩ => ⟨he, rfl, hb, hu1⟩
  · rw [if_neg h8, if_neg h9, if_neg h10, if_pos h13]
    exact ⟨rfl, h.wr (by omega), rfl, h.put (g' := { g with col := 0 }) rfl rfl, UB.putS (Upd.refl u) _ _⟩
  · rw [if_neg h8, if_neg h9, if_neg h10, if_neg h13]
    exact ⟨rfl, h, Upd.refl u⟩

theorem number_ok {u : World} {p : Option Addr} {n c : Nat} {l : List Int} (h : Nums u p n l) {k : Int} (hk : 0 ≤ k) (least : Int) :
    Spec Tryd.prog fn_grid_number #[.slice p n c, .int .i64 k, .int .i64 least] u fun e u' => e = .returned (.int .i64 (numP l k.toNat least)) ∧ Ext u u' := by
  apply vc_grid_number_spec
  unfold vc_grid_number
  simp only [decide_eq_true_eq, decide_eq_false_iff_not]
  have hl := h.2
  refine ⟨fun hlt => ?_, fun hlt => ?_⟩
  · obtain ⟨b, o, hp, hr⟩ := h.at (i := k.toNat) (by omega)
    exact ⟨b, o, hp, hk, hlt, _, rfl, hr, rfl, Upd.refl u⟩
  · refine ⟨?_, Upd.refl u⟩
    unfold numP
    rw [show l.getD k.toNat 0 = 0 by rw [List.getD_eq_getElem?_getD, List.getElem?_eq_none (by omega)]; rfl]

theorem cut_ptr {c b o k : Nat} (h : c ≠ k) : (if c = k then some (Addr.mk b o none) else Option.map (fun a => Addr.add a (k * 4)) (some ⟨b, o, none⟩)) = some ⟨b, o + k * 4, none⟩ := by rw [if_neg h, map_add]

theorem erase_ok {u : World} {gb : Nat} {g : Gr} {b c : Nat} (h : GB u gb g b c) (hg : GoodG g) {how a fr to : Int} (h0 : 0 ≤ fr) (h1 : fr ≤ a) (h2 : a < to) (h3 : to ≤ (g.cells.length : Nat)) :
    Spec Tryd.prog fn_grid_erase #[.pointer (some ⟨gb, 0, none⟩), .int .i64 how, .int .i64 a, .int .i64 fr, .int .i64 to] u (GDone u gb b c (eraseG g how a fr to)) := by
  apply vc_grid_erase_spec
  unfold vc_grid_erase
  simp only [decide_eq_true_eq, decide_eq_false_iff_not]
  have hc := h.own.le
  have hfew := few_cells hg
  have wipe : ∀ i j : Int, 0 ≤ i → i < j → j ≤ (g.cells.length : Nat) → Spec Tryd.prog fn_grid_wipe #[.slice (if c = i.toNat then some (Addr.mk b 0 none) else Option.map (fun a => Addr.add a (i.toNat * 4)) (some ⟨b, 0, none⟩)) (j.toNat - i.toNat) (c - i.toNat)] u
      (fun e u' => e = .returned (.tuple #[]) ∧ GDone u gb b c { g with cells := eraseC i.toNat j.toNat g.cells } (.returned (.tuple #[])) u') := fun i j hi hj hl => by
    rw [cut_ptr (by omega)]
    refine (wipe_ok h.own (by omega) (i := i.toNat) (n := j.toNat - i.toNat) (by omega)).mono fun e u1 ⟨he, ho, hu1⟩ => ⟨he, rfl, ?_, UB.cells hu1⟩
    rw [show i.toNat + (j.toNat - i.toNat) = j.toNat by omega] at ho
    exact h.back hu1 ho (eraseC_len _ _ _)
  unfold eraseG
  refine ⟨fun e0 => ⟨_, _, _, rfl, h.rdCells (Upd.refl u), by omega, by omega, by omega, ?_⟩, fun e0 => ⟨fun e1 => ⟨_, _, _, rfl, h.rdCells (Upd.refl u), by simp only [inK]; omega, h0, by omega, by omega, ?_⟩, fun e1 => ⟨fun e2 => ⟨_, _, _, rfl, h.rdCells (Upd.refl u), h0, by omega, by omega, ?_⟩, fun e2 => ?_⟩⟩⟩
  · rw [if_pos e0]
    exact wipe a to (by omega) h2 h3
  · rw [if_neg e0, if_pos e1]
    exact wipe fr (a + 1) h0 (by omega) (by omega)
  · rw [if_neg e0, if_neg e1, if_pos e2]
    exact wipe fr to h0 (by omega) h3
  · rw [if_neg e0, if_neg e1, if_neg e2]
    exact ⟨rfl, h, Upd.refl u⟩

theorem gink_ok {u : World} {gb : Nat} {g : Gr} {b c : Nat} (h : GB u gb g b c) {n : Int} :
    Spec Tryd.prog fn_grid_ink #[.pointer (some ⟨gb, 0, none⟩), .int .i64 n] u (GDone u gb b c (inkG g n)) := by
  apply vc_grid_ink_spec
  unfold vc_grid_ink
  simp only [decide_eq_true_eq, decide_eq_false_iff_not]
  have r := Upd.refl (S := UB gb b) u
  unfold inkG
  refine ⟨fun e0 => ?_, fun e0 => ⟨fun e1 => ?_, fun e1 => ⟨fun e2 => ?_, fun e2 => ⟨fun e3 => ⟨fun e4 => ?_, fun e4 => ⟨fun e5 => ?_, fun e5 => ?_⟩⟩, fun e3 => ⟨fun e5 => ?_, fun e5 => ?_⟩⟩⟩⟩⟩
  · rw [if_pos e0]
    have hp := h.put (g' := { g with ink := 0 }) (o := 0 + 5) (ys := [.int .i64 0]) rfl rfl
    exact ⟨rfl, h.wr (by omega), rfl, hp.wr (by omega), rfl, hp.put (g' := { g with ink := 0, bold := false }) rfl rfl, UB.putS (UB.putS r _ _) _ _⟩
  · rw [if_neg e0, if_pos e1]
    exact ⟨rfl, h.wr (by omega), rfl, h.put (g' := { g with bold := true }) rfl rfl, UB.putS r _ _⟩
  · rw [if_neg e0, if_neg e1, if_pos e2]
    exact ⟨rfl, h.wr (by omega), rfl, h.put (g' := { g with bold := false }) rfl rfl, UB.putS r _ _⟩
  · rw [if_neg e0, if_neg e1, if_neg e2, if_pos ⟨e3, e4⟩]
    exact ⟨by simp only [inK]; omega, rfl, h.wr (by omega), rfl, h.put (g' := { g with ink := n - 29 }) rfl rfl, UB.putS r _ _⟩
  · rw [if_neg e0, if_neg e1, if_neg e2, if_neg (by omega), if_pos e5]
    exact ⟨rfl, h.wr (by omega), rfl, h.put (g' := { g with ink := 0 }) rfl rfl, UB.putS r _ _⟩
  · rw [if_neg e0, if_neg e1, if_neg e2, if_neg (by omega), if_neg e5]
    exact ⟨rfl, h, r⟩
  · rw [if_neg e0, if_neg e1, if_neg e2, if_neg (by omega), if_pos e5]
    exact ⟨rfl, h.wr (by omega), rfl, h.put (g' := { g with ink := 0 }) rfl rfl, UB.putS r _ _⟩
  · rw [if_neg e0, if_neg e1, if_neg e2, if_neg (by omega), if_neg e5]
    exact ⟨rfl, h, r⟩

end Go.Proofs.YtkmmphkjmamckabDoor

/-
  The screen's functions, on: what is good, an empty screen, a command, a picture, an event.
-/
namespace Go.Proofs.YtkmmphkjmamckabDoor
open Go
set_option linter.all false

theorem goodC_iff {c : Cl} : goodC c = true ↔ (0 ≤ c.pic ∧ c.pic ≤ 8 ∧ 0 ≤ c.ink ∧ c.ink ≤ 8) ∧ ((c.pic = 0 ∧ ((c.ch = 0 ∧ c.ink = 0 ∧ c.bold = false) ∨ (32 ≤ c.ch ∧ c.ch < 127))) ∨ (c.pic ≠ 0 ∧ c.ch = 0 ∧ c.ink = 0 ∧ c.bold = false)) := by
  unfold goodC
  rw [Bool.and_eq_true, decide_eq_true_eq]
  by_cases h : c.pic = 0
  · rw [if_pos h, decide_eq_true_eq]
    simp only [h, true_and, ne_eq, not_true, false_and, or_false]
  · rw [if_neg h, decide_eq_true_eq]
    simp only [h, false_and, ne_eq, not_false_iff, true_and, false_or]

theorem goodCell_ok (k : Cl) {u : World} : Spec Tryd.prog fn_grid_GoodCell #[ClV k] u (Told u (goodC k)) := by
  apply vc_grid_GoodCell_spec
  unfold vc_grid_GoodCell
  have hu : Ext u (allocW u hole) := (Upd.refl u).alloc _
  have leaf : ∀ x : Bool, (x = true ↔ goodC k = true) → Told u (goodC k) (.returned (.bool x)) (allocW u hole) := fun x h => ⟨by rw [Bool.eq_iff_iff.2 h], hu⟩
  simp only [goodC_iff] at leaf
  obtain ⟨ch, ink, pic, bold⟩ := k
  simp only [decide_eq_true_eq, decide_eq_false_iff_not, Bool.not_eq_true', Bool.not_eq_false'] at leaf ⊢
  cases bold
  · simp only [and_true, true_implies, Bool.false_eq_true, false_implies, Bool.true_eq_false, Bool.not_false, Bool.not_true] at leaf ⊢
    repeat' (refine And.intro (fun _ => ?_) (fun _ => ?_))
    all_goals first
      | exact leaf _ (by simp only [Bool.false_eq_true, decide_eq_true_eq, false_iff, true_iff]; omega)
      | skip
    all_goals (refine leaf _ ?_; simp only [Bool.false_eq_true, decide_eq_true_eq, false_iff, true_iff, iff_true, iff_false]; omega)
  · simp only [and_false, true_implies, Bool.false_eq_true, false_implies, Bool.true_eq_false, Bool.not_false, Bool.not_true, false_or, or_false, true_and] at leaf ⊢
    repeat' (refine And.intro (fun _ => ?_) (fun _ => ?_))
    all_goals (refine leaf _ ?_; simp only [Bool.false_eq_true, decide_eq_true_eq, false_iff, true_iff, iff_true, iff_false]; omega)

theorem good_c1_ok (k : Cl) {u : World} : Spec Tryd.prog fn_grid_Good_c1 #[ClV k] u (Told u (!goodC k)) := by
  apply vc_grid_Good_c1_spec
  unfold vc_grid_Good_c1
  have hu : Ext u (allocW u hole) := (Upd.refl u).alloc _
  exact (goodCell_ok k).mono fun e u1 ⟨he, hu1⟩ => ⟨_, he, rfl, hu.ext hu1⟩

theorem indexFunc_ok {u : World} {p : Option Addr} {l : List Cl} (h : Cells u p l) (c : Nat) (hl : l.length ≤ 100000000000000) :
    Spec Tryd.prog fn_slices_IndexFunc_api_Cell_api_Cell #[.slice p l.length c, .func (.func fn_grid_Good_c1) #[] #[]] u fun e u' => ∃ x : Int, e = .returned (.int .i64 x) ∧ (0 ≤ x ↔ ¬ AllG l) ∧ Ext u u' := by
  apply vc_slices_IndexFunc_api_Cell_api_Cell_spec
  unfold vc_slices_IndexFunc_api_Cell_api_Cell
  simp only [decide_eq_true_eq, decide_eq_false_iff_not]
  refine ⟨fun x u1 => Ext u u1 ∧ 0 ≤ x ∧ x ≤ l.length ∧ ∀ i : Nat, i < x.toNat → goodC (cg l i) = true, fun x _ => (l.length - x).toNat, ⟨Upd.refl _, by omega, by omega, by omega⟩, fun x u1 ⟨hu, h0, h1, hi⟩ => ⟨fun hx => ?_, fun hx => ?_⟩⟩
  · obtain ⟨b, o, hp, hr⟩ := (h.ext hu).at (i := x.toNat) (by omega)
    refine ⟨b, o, hp, h0, hx, _, _, _, _, rfl, hr, ?_⟩
    refine (good_c1_ok (cg l x.toNat)).mono fun e u2 ⟨he, hu2⟩ => ⟨_, he, fun hb => ⟨x, rfl, ?_, hu.ext hu2⟩, fun hb => ⟨by simp only [inK]; omega, ⟨hu.ext hu2, by omega, by omega, fun i hi' => ?_⟩, by dsimp only; omega⟩⟩
    · simp only [h0, true_iff]
      intro hall
      rw [hall _ (cg_mem (by omega))] at hb
      cases hb
    · rcases (by omega : i < x.toNat ∨ i = x.toNat) with h | rfl
      · exact hi i h
      · simpa using hb
  · refine ⟨-1, rfl, ?_, hu⟩
    constructor
    · intro h; omega
    · intro h
      exact (h fun k hk => by
        obtain ⟨i, hi', rfl⟩ := mem_cg hk
        exact hi i (by omega)).elim

theorem containsFunc_ok {u : World} {p : Option Addr} {l : List Cl} (h : Cells u p l) (c : Nat) (hl : l.length ≤ 100000000000000) :
    Spec Tryd.prog fn_slices_ContainsFunc_api_Cell_api_Cell #[.slice p l.length c, .func (.func fn_grid_Good_c1) #[] #[]] u (Told u (!l.all goodC)) := by
  apply vc_slices_ContainsFunc_api_Cell_api_Cell_spec
  unfold vc_slices_ContainsFunc_api_Cell_api_Cell
  refine (indexFunc_ok h c hl).mono fun e u1 ⟨x, he, hx, hu⟩ => ⟨x, he, ?_, hu⟩
  congr 2
  rw [Bool.eq_iff_iff, decide_eq_true_eq, hx, Bool.not_eq_true', ← Bool.not_eq_true, List.all_eq_true]

theorem ggood_ok {u : World} {g : Gr} {p : Option Addr} (h : Cells u p g.cells) (c : Nat) (hl : g.cells.length ≤ 100000000000000) :
    Spec Tryd.prog fn_grid_Good #[GrV g p g.cells.length c] u (Told u (goodG g)) := by
  apply vc_grid_Good_spec
  unfold vc_grid_Good
  simp only [decide_eq_true_eq, decide_eq_false_iff_not, Bool.not_eq_true', Bool.not_eq_false']
  have hu : Ext u (allocW u hole) := (Upd.refl u).alloc _
  have no : ¬ (1 ≤ g.wide ∧ g.wide ≤ 24 ∧ 1 ≤ g.high ∧ g.high ≤ 10 ∧ (g.cells.length : Int) = g.wide * g.high ∧ 0 ≤ g.row ∧ g.row < g.high ∧ 0 ≤ g.col ∧ g.col ≤ g.wide ∧ 0 ≤ g.ink ∧ g.ink ≤ 8 ∧ 0 ≤ g.top ∧ g.top < g.bottom ∧ g.bottom ≤ g.high) → Told u (goodG g) (.returned (.bool false)) (allocW u hole) := fun hn => ⟨by
    congr 2
    symm
    unfold goodG
    rw [decide_eq_false hn]
    rfl, hu⟩
  refine ⟨fun _ => no (by omega), fun h1 => ⟨fun _ => no (by omega), fun h2 => ⟨fun _ => no (by omega), fun h3 => ⟨fun _ => no (by omega), fun h4 => ⟨?_, fun _ => no (by omega), fun h5 => ?_⟩⟩⟩⟩⟩
  · have a : 0 ≤ g.wide * g.high := Int.mul_nonneg (by omega) (by omega)
    have b : g.wide * g.high ≤ 24 * g.high := Int.mul_le_mul_of_nonneg_right (by omega) (by omega)
    simp only [inK]; omega
  refine ⟨fun _ => no (by omega), fun h6 => ⟨fun _ => no (by omega), fun h7 => ⟨fun _ => no (by omega), fun h8 => ⟨fun _ => no (by omega), fun h9 => ⟨fun _ => no (by omega), fun h10 => ⟨fun _ => no (by omega), fun h11 => ⟨fun _ => no (by omega), fun h12 => ⟨fun _ => no (by omega), fun h13 => ⟨fun _ => no (by omega), fun h14 => ?_⟩⟩⟩⟩⟩⟩⟩⟩⟩
  refine (containsFunc_ok (h.ext hu) c hl).mono fun e u1 ⟨he, hu1⟩ => ⟨_, he, ?_, hu.ext hu1⟩
  congr 2
  unfold goodG
  rw [decide_eq_true (by omega)]
  simp

theorem repl_cells (n : Nat) : repl n [.int .i64 0, .int .i64 0, .int .i64 0, .bool false] = cellsV (List.replicate n .z) := by rw [cellsV_repl]; rfl

/-- An empty screen has come. -/
structure NewPost (u : World) (g : Gr) (e : Ending) (u' : World) : Prop where
  ex : ∃ b, e = .returned (GrV g (some ⟨b, 0, none⟩) g.cells.length g.cells.length) ∧ CO u' b g.cells.length g.cells ∧ u.heap.size ≤ b
  ext : Ext u u'

theorem gnew_ok (w h : Int) {u : World} : Spec Tryd.prog fn_grid_New #[.int .i64 w, .int .i64 h] u (NewPost u (newG w h)) := by
  apply vc_grid_New_spec
  unfold vc_grid_New
  have hu : Ext u (allocW u hole) := (Upd.refl u).alloc _
  have a : 0 ≤ max (1 : Int) (min w 24) * max (1 : Int) (min h 10) := Int.mul_nonneg (by omega) (by omega)
  have b : max (1 : Int) (min w 24) * max (1 : Int) (min h 10) ≤ 24 * max (1 : Int) (min h 10) := Int.mul_le_mul_of_nonneg_right (by omega) (by omega)
  have hlen : (newG w h).cells.length = (max (1 : Int) (min w 24) * max (1 : Int) (min h 10)).toNat := by simp [newG]
  refine ⟨by simp only [inK]; omega, a, Int.le_refl _, by omega, by omega, ⟨(allocW u hole).heap.size, ?_, ?_, hu.size⟩, hu.alloc _⟩
  · rw [hlen]; rfl
  · rw [repl_cells]
    have := CO.fresh (allocW u hole) (List.replicate (max (1 : Int) (min w 24) * max (1 : Int) (min h 10)).toNat .z) ty_api_Cell
    rw [List.length_replicate] at this
    rw [hlen]
    exact this

theorem gclone_ok {u : World} {p : Option Addr} {l : List Cl} (h : Cells u p l) (c : Nat) (hl : l.length ≤ 100000000) (h0 : 0 < l.length) :
    Spec Tryd.prog fn_slices_Clone_api_Cell_api_Cell #[.slice p l.length c] u fun e u' => ∃ b c', e = .returned (.slice (some ⟨b, 0, none⟩) l.length c') ∧ CO u' b c' l ∧ Ext u u' ∧ u.heap.size ≤ b := by
  apply vc_slices_Clone_api_Cell_api_Cell_spec
  unfold vc_slices_Clone_api_Cell_api_Cell
  refine ⟨fun hp => ?_, fun hp => ?_⟩
  · obtain ⟨b, o, hp', _⟩ := h.at h0
    rw [hp'] at hp
    cases hp
  · have hu : Ext u (allocW u (.cells #[] ty_api_Cell)) := (Upd.refl u).alloc _
    have h' := h.ext hu
    have hf : Own (allocW u (.cells #[] ty_api_Cell)) 4 (some ⟨u.heap.size, 0, none⟩) 0 0 [] := Own.fresh u (cs := []) rfl
    refine ⟨[], cellsV l, rfl, hf.gets, cellsV_len l, h'.gets, by decide, by omega, (cellsV_ok _ _).2 trivial, fun hc => hf.wrs (by omega), fun p cap u1 hr => ?_⟩
    obtain ⟨h1, h2, h3⟩ := hf.app hr rfl hf.gets (cellsV_len l) rfl
    simp only [Nat.zero_add, List.nil_append] at h1 ⊢
    rcases h3 with ⟨rfl, hn⟩ | ⟨rfl, hx⟩
    · omega
    · exact ⟨_, cap, rfl, h1, hu.ext hx, hu.size⟩

theorem gat_ok {u : World} {g : Gr} {p : Option Addr} (h : Cells u p g.cells) (c : Nat) (r cl : Int) (hl : g.cells.length ≤ 100000000) :
    Spec Tryd.prog fn_grid_At #[GrV g p g.cells.length c, .int .i64 r, .int .i64 cl] u fun e u' => e = .returned (ClV (atG g r cl)) ∧ Ext u u' := by
  apply vc_grid_At_spec
  unfold vc_grid_At
  simp only [decide_eq_true_eq, decide_eq_false_iff_not]
  have hu : Ext u (allocW (allocW u hole) hole) := ((Upd.refl u).alloc _).alloc _
  have no : ¬ (g.wide ≤ 24 ∧ g.high ≤ 10 ∧ 0 ≤ r ∧ r < g.high ∧ 0 ≤ cl ∧ cl < g.wide ∧ r * g.wide + cl < (g.cells.length : Nat)) → Ending.returned (.agg #[.int .i64 0, .int .i64 0, .int .i64 0, .bool false]) = .returned (ClV (atG g r cl)) ∧ Ext u (allocW (allocW u hole) hole) := fun hn => ⟨by
    have : atG g r cl = .z := by
      unfold atG
      split
      · next hc =>
        have hm : 0 ≤ r * g.wide := Int.mul_nonneg hc.2.2.1 (by omega)
        exact cg_out (by omega)
      · rfl
    rw [this], hu⟩
  have hmul : 0 ≤ r → r < g.high → g.high ≤ 10 → 0 ≤ g.wide → g.wide ≤ 24 → 0 ≤ r * g.wide ∧ r * g.wide ≤ 240 := fun a b c d e => by
    have x : 0 ≤ r * g.wide := Int.mul_nonneg a d
    have y : r * g.wide ≤ 10 * g.wide := Int.mul_le_mul_of_nonneg_right (by omega) d
    omega
  refine ⟨fun _ => no (by omega), fun h1 => ⟨fun _ => no (by omega), fun h2 => ⟨fun _ => no (by omega), fun h3 => ⟨fun _ => no (by omega), fun h4 => ⟨fun _ => no (by omega), fun h5 => ⟨fun _ => no (by omega), fun h6 => ?_⟩⟩⟩⟩⟩⟩
  have hm := hmul (by omega) (by omega) (by omega) (by omega) (by omega)
  refine ⟨by simp only [inK]; omega, by simp only [inK]; omega, fun h7 => no (by omega), fun h7 => ⟨by simp only [inK]; omega, by simp only [inK]; omega, ?_⟩⟩
  obtain ⟨b, o, hp, hr⟩ := (h.ext hu).at (i := (r * g.wide + cl).toNat) (by omega)
  refine ⟨b, o, hp, by omega, by omega, _, _, _, _, rfl, hr, ?_, hu⟩
  unfold atG
  rw [if_pos (by omega)]

end Go.Proofs.YtkmmphkjmamckabDoor

/-
  The screen's functions, on: a command, a picture, an event.
-/
namespace Go.Proofs.YtkmmphkjmamckabDoor
open Go
set_option linter.all false

theorem inks_last (g : Gr) {l : List Int} {i : Nat} (h : i < l.length) : (l.take (i + 1)).foldl inkG g = inkG ((l.take i).foldl inkG g) (l.getD i 0) := by
  have e : l.take (i + 1) = l.take i ++ [l.getD i 0] := by
    rw [List.take_succ, List.getElem?_eq_getElem h]
    simp [List.getD_eq_getElem?_getD, List.getElem?_eq_getElem h]
  rw [e, List.foldl_append]
  rfl

theorem rollG_more {g : Gr} (hg : GoodG g) {fr to m n : Int} (h0 : 0 ≤ to) (h1 : to ≤ g.high) (h : (0 ≤ m ∧ 0 ≤ n) ∨ (m ≤ 0 ∧ n ≤ 0)) : rollG (rollG g fr to n) fr to m = rollG g fr to (m + n) := by
  have f := row_facts hg h0 h1
  unfold rollG
  dsimp only
  rw [roll_roll (by have := hg.w1; omega) (by rw [← f.2.2.2]; omega) h]

theorem rollG_zero (g : Gr) (fr to : Int) : rollG g fr to 0 = g := by
  unfold rollG
  rw [roll_zero]

theorem gcommand_ok {u : World} {gb : Nat} {g : Gr} {b c : Nat} (h : GB u gb g b c) (hg : GoodG g) {ch : Int} {p : Option Addr} {n cc : Nat} {l : List Int} (hl : Nums u p n l) (hp : n ≠ 0 → ∀ k, At p k → ¬ UB gb b k) (hn : n ≤ 100000000) :
    Spec Tryd.prog fn_grid_command #[.pointer (some ⟨gb, 0, none⟩), .int .i64 ch, .slice p n cc] u (GDone u gb b c (commandG g ch l)) := by
  apply vc_grid_command_spec
  unfold vc_grid_command
  simp only [decide_eq_true_eq, decide_eq_false_iff_not]
  refine (number_ok (c := cc) hl (k := 0) (by decide) 1).mono fun e u1 ⟨he, hu1⟩ => ⟨_, he, ?_⟩
  have hw1 := hg.w1
  have hw2 := hg.w2
  have hh1 := hg.h1
  have hh2 := hg.h2
  have hr1 := hg.r1
  have hr2 := hg.r2
  have hc1 := hg.c1
  have hc2 := hg.c2
  have ht1 := hg.t1
  have ht2 := hg.t2
  have hb2 := hg.b2
  have X := h.ext hu1
  have hl1 := hl.ext hu1
  have hd : Ext u1 (drewW u1) := (Upd.refl u1).drew
  have hud := hu1.ext hd
  have Y := X.ext hd
  have R : Upd (UB gb b) u u1 := hu1.any
  have Rd' : Upd (UB gb b) u (drewW u1) := hud.any
  have hnum : 1 ≤ numP l 0 1 ∧ numP l 0 1 ≤ 999 := by unfold numP; omega
  have r0 := row_facts hg hr1 (by omega)
  have r1 := row_facts hg (r := g.row + 1) (by omega) (by omega)
  have e1 := succ_mul' g.row g.wide
  have hfew := few_cells hg
  have hN : ∀ k : Int, 0 ≤ k → ∀ least, numP l k.toNat least = numP l k.toNat least := fun _ _ _ => rfl
  unfold commandG
  dsimp only
  show _ ∧ _
  rw [show (0 : Int).toNat = 0 from rfl]
  generalize hN0 : numP l 0 1 = N at hnum
  refine ⟨fun hc => ?_, fun hc => ?_⟩
  · rw [if_pos hc]
    exact ⟨_, rfl, h.rdRow hu1, by simp only [inK]; omega, rfl, X.wr (by omega), rfl, X.put (g' := { g with row := max 0 (g.row - N) }) rfl rfl, UB.putS R _ _⟩
  rw [if_neg hc]
  clear hc
  refine ⟨fun hc => ?_, fun hc => ?_⟩
  · rw [if_pos hc]
    exact ⟨_, rfl, h.rdHigh hud, by simp only [inK]; omega, _, rfl, h.rdRow hud, by simp only [inK]; omega, rfl, Y.wr (by omega), rfl, Y.put (g' := { g with row := min (g.high - 1) (g.row + N) }) rfl rfl, UB.putS Rd' _ _⟩
  rw [if_neg hc]
  clear hc
  refine ⟨fun hc => ?_, fun hc => ?_⟩
  · rw [if_pos hc]
    exact ⟨_, rfl, h.rdWide hud, by simp only [inK]; omega, _, rfl, h.rdCol hud, by simp only [inK]; omega, rfl, Y.wr (by omega), rfl, Y.put (g' := { g with col := min (g.wide - 1) (g.col + N) }) rfl rfl, UB.putS Rd' _ _⟩
  rw [if_neg hc]
  clear hc
  refine ⟨fun hc => ?_, fun hc => ?_⟩
  · rw [if_pos hc]
    exact ⟨_, rfl, h.rdCol hud, _, rfl, h.rdWide hud, by simp only [inK]; omega, by simp only [inK]; omega, rfl, Y.wr (by omega), rfl, Y.put (g' := { g with col := max 0 (min g.col (g.wide - 1) - N) }) rfl rfl, UB.putS Rd' _ _⟩
  rw [if_neg hc]
  clear hc
  refine ⟨fun hc => ?_, fun hc => ?_⟩
  · rw [if_pos hc]
    refine ⟨_, rfl, h.rdHigh hud, by simp only [inK]; omega, _, rfl, h.rdWide hud, ?_⟩
    refine (number_ok (c := cc) (hl1.ext hd) (k := 1) (by decide) 1).mono fun e u2 ⟨he, hu2⟩ => ⟨_, he, h.rdWide (hud.ext hu2), h.rdHigh (hud.ext hu2), ?_⟩
    rw [show (1 : Int).toNat = 1 from rfl]
    have hm : 1 ≤ numP l 1 1 := by unfold numP; omega
    generalize numP l 1 1 = M at hm
    have Z := Y.ext hu2
    have Z1 := Z.put (g' := { g with row := min g.high N - 1 }) (o := 0 + 3) (ys := [.int .i64 (min g.high N - 1)]) rfl rfl
    exact ⟨by simp only [inK]; omega, rfl, Z.wr (by omega), rfl, Z1.wr (by omega), rfl, Z1.put (g' := { g with row := min g.high N - 1, col := min g.wide M - 1 }) rfl rfl, UB.putS (UB.putS (Rd'.ext hu2) _ _) _ _⟩
  rw [if_neg hc]
  clear hc
  refine ⟨fun hc => ?_, fun hc => ?_⟩
  · rw [if_pos hc]
    refine ⟨_, rfl, h.rdRow hud, _, rfl, h.rdWide hud, by simp only [inK]; omega, _, rfl, h.rdCol hud, _, rfl, h.rdWide hud, by simp only [inK]; omega, by simp only [inK]; omega, _, _, _, rfl, h.rdCells hud, ?_⟩
    refine (number_ok (c := cc) (hl1.ext hd) (k := 0) (by decide) 0).mono fun e u2 ⟨he, hu2⟩ => ⟨_, he, h.rdCells (hud.ext hu2), h.rdWide (hud.ext hu2), h.rdCol (hud.ext hu2), h.rdWide (hud.ext hu2), h.rdRow (hud.ext hu2), ?_⟩
    rw [show (0 : Int).toNat = 0 from rfl]
    exact (erase_ok (Y.ext hu2) hg (Int.le_refl 0) (by omega) (by omega) (Int.le_refl _)).mono fun e u3 ⟨he, Z, hu3⟩ => ⟨he, rfl, Z, UB.trans (Rd'.ext hu2) hu3⟩
  rw [if_neg hc]
  clear hc
  refine ⟨fun hc => ?_, fun hc => ?_⟩
  · rw [if_pos hc]
    refine ⟨_, rfl, h.rdRow hud, _, rfl, h.rdWide hud, by simp only [inK]; omega, _, rfl, h.rdCol hud, _, rfl, h.rdWide hud, by simp only [inK]; omega, by simp only [inK]; omega, _, rfl, h.rdRow hud, _, rfl, h.rdWide hud, by simp only [inK]; omega, _, rfl, h.rdRow hud, by simp only [inK]; omega, _, rfl, h.rdWide hud, by simp only [inK]; omega, ?_⟩
    refine (number_ok (c := cc) (hl1.ext hd) (k := 0) (by decide) 0).mono fun e u2 ⟨he, hu2⟩ => ⟨_, he, h.rdWide (hud.ext hu2), h.rdRow (hud.ext hu2), h.rdWide (hud.ext hu2), h.rdRow (hud.ext hu2), h.rdWide (hud.ext hu2), h.rdCol (hud.ext hu2), h.rdWide (hud.ext hu2), h.rdRow (hud.ext hu2), ?_⟩
    rw [show (0 : Int).toNat = 0 from rfl]
    exact (erase_ok (Y.ext hu2) hg (by omega) (by omega) (by omega) (by omega)).mono fun e u3 ⟨he, Z, hu3⟩ => ⟨he, rfl, Z, UB.trans (Rd'.ext hu2) hu3⟩
  rw [if_neg hc]
  clear hc
  refine ⟨fun h76 => ⟨fun _ => ?_, fun h => (h h76).elim⟩, fun h76 => ⟨fun h77 => ?_, fun h77 => ?_⟩⟩
  rotate_left 2
  · rw [if_neg (by omega)]
    refine ⟨fun hc => ?_, fun hc => ?_⟩
    · rw [if_pos hc]
      refine ⟨fun x u2 => GB u2 gb ((l.take x.toNat).foldl inkG g) b c ∧ Upd (UB gb b) u1 u2 ∧ 0 ≤ x ∧ x ≤ n, fun x _ => (n - x).toNat, ⟨X, Upd.refl _, by omega, by omega⟩, fun x u2 ⟨Z, hu2, h0, h1⟩ => ⟨fun hx => ?_, fun hx => ⟨rfl, ?_, UB.trans R hu2⟩⟩⟩
      · have hln := hl.2
        obtain ⟨b', o', hp', hr'⟩ := (hl1.upd hu2 (hp (by omega))).at (i := x.toNat) (by omega)
        refine ⟨b', o', hp', h0, hx, _, rfl, hr', ?_⟩
        refine (gink_ok Z).mono fun e u3 ⟨he, Z3, hu3⟩ => ⟨he, by simp only [inK]; omega, ⟨?_, UB.trans hu2 hu3, by omega, by omega⟩, by dsimp only; omega⟩
        rw [show (x + 1).toNat = x.toNat + 1 by omega, inks_last g (by omega)]
        exact Z3
      · rw [List.take_of_length_le (by have := hl.2; omega)] at Z
        exact Z
    rw [if_neg hc]
    clear hc
    refine ⟨fun hc => ?_, fun hc => ?_⟩
    · rw [if_pos hc]
      refine ⟨by simp only [inK]; omega, ?_⟩
      refine (number_ok (c := cc) hl1 (k := 1) (by decide) 0).mono fun e u2 ⟨he, hu2⟩ => ⟨_, he, ?_⟩
      rw [show (1 : Int).toNat = 1 from rfl]
      have hm : 0 ≤ numP l 1 0 ∧ numP l 1 0 ≤ 999 := by unfold numP; omega
      generalize numP l 1 0 = M at hm
      have Z := X.ext hu2
      have RZ : Upd (UB gb b) u u2 := R.ext hu2
      have hset : ∀ bot : Int, bot = (if M = 0 ∨ g.high < M then g.high else M) → (N - 1 < bot → 1 = ([.int .i64 (N - 1)] : List Value).length ∧ Wr u2 gb (0 + 7) 1 ∧ 1 = ([.int .i64 bot] : List Value).length ∧
          Wr (putCells u2 gb (0 + 7) ([.int .i64 (N - 1)])) gb (0 + 8) 1 ∧ 1 = ([.int .i64 0] : List Value).length ∧ Wr (putCells (putCells u2 gb (0 + 7) ([.int .i64 (N - 1)])) gb (0 + 8) ([.int .i64 bot])) gb (0 + 3) 1 ∧
          1 = ([.int .i64 0] : List Value).length ∧ Wr (putCells (putCells (putCells u2 gb (0 + 7) ([.int .i64 (N - 1)])) gb (0 + 8) ([.int .i64 bot])) gb (0 + 3) ([.int .i64 0])) gb (0 + 4) 1 ∧
          GDone u gb b c (regionG g (N - 1) M) (.returned (.tuple #[])) (putCells (putCells (putCells (putCells u2 gb (0 + 7) ([.int .i64 (N - 1)])) gb (0 + 8) ([.int .i64 bot])) gb (0 + 3) ([.int .i64 0])) gb (0 + 4) ([.int .i64 0]))) ∧
          (¬ N - 1 < bot → GDone u gb b c (regionG g (N - 1) M) (.returned (.tuple #[])) u2) := fun bot hbot => by
        have hreg : regionG g (N - 1) M = if N - 1 < bot then { g with top := N - 1, bottom := bot, row := 0, col := 0 } else g := by
          unfold regionG
          rw [hbot]
        rw [hreg]
        refine ⟨fun hlt => ?_, fun hlt => ?_⟩
        · rw [if_pos hlt]
          have Z1 := Z.put (g' := { g with top := N - 1 }) (o := 0 + 7) (ys := [.int .i64 (N - 1)]) rfl rfl
          have Z2 := Z1.put (g' := { g with top := N - 1, bottom := bot }) (o := 0 + 8) (ys := [.int .i64 bot]) rfl rfl
          have Z3 := Z2.put (g' := { g with top := N - 1, bottom := bot, row := 0 }) (o := 0 + 3) (ys := [.int .i64 0]) rfl rfl
          exact ⟨rfl, Z.wr (by omega), rfl, Z1.wr (by omega), rfl, Z2.wr (by omega), rfl, Z3.wr (by omega), rfl, Z3.put (g' := { g with top := N - 1, bottom := bot, row := 0, col := 0 }) rfl rfl, UB.putS (UB.putS (UB.putS (UB.putS RZ _ _) _ _) _ _) _ _⟩
        · rw [if_neg hlt]
          exact ⟨rfl, Z, RZ⟩
      refine ⟨fun x u3 => u3 = u2 ∧ (x = true ↔ M = 0 ∨ g.high < M), ⟨fun hM => ⟨rfl, by simp [hM]⟩, fun hM => ⟨_, rfl, h.rdHigh (hu1.ext hu2), rfl, by simp [hM]⟩⟩, fun x u3 ⟨hx3, hx⟩ => ?_⟩
      subst hx3
      refine ⟨fun hxt => ⟨_, rfl, h.rdHigh (hu1.ext hu2), ?_⟩, fun hxf => ?_⟩
      · exact hset g.high (by rw [if_pos (hx.1 hxt)])
      · exact hset M (by rw [if_neg (fun hh => by rw [hx.2 hh] at hxf; cases hxf)])
    · rw [if_neg hc]
      exact ⟨rfl, X, R⟩
  all_goals
    rw [if_pos (by omega)]
    refine ⟨_, rfl, h.rdRow hud, _, rfl, h.rdTop hud, fun ha => ⟨?_, ?_, Rd'⟩, fun ha => ⟨_, rfl, h.rdRow hud, _, rfl, h.rdBottom hud, fun hb => ⟨?_, ?_, Rd'⟩, fun hb => ?_⟩⟩
    · rfl
    · rw [if_pos (.inl ha)]; exact Y
    · rfl
    · rw [if_pos (.inr hb)]; exact Y
    rw [if_neg (by omega)]
    refine ⟨fun x u2 => GB u2 gb (rollG g g.row g.bottom (if ch = 76 then -x else x)) b c ∧ Upd (UB gb b) u u2 ∧ 0 ≤ x ∧ x ≤ min N 10, fun x _ => (min N 10 - x).toNat, ⟨?_, Rd', by omega, by omega⟩, fun x u2 ⟨Z, hu2, h0, h1⟩ => ⟨fun hx => ⟨fun hch => ?_, fun hch => ?_⟩, fun hx => ⟨rfl, Z.wr (by omega), rfl, ?_, UB.putS hu2 _ _⟩⟩⟩
    · have : rollG g g.row g.bottom (if ch = 76 then -0 else 0) = g := by split <;> exact rollG_zero _ _ _
      rw [this]
      exact Y
    · have hd2 : Ext u2 (drewW u2) := (Upd.refl u2).drew
      rw [if_pos hch] at Z
      have Zg := hg.roll g.row g.bottom (-x)
      refine ⟨_, rfl, Z.rdRow hd2, _, rfl, Z.rdBottom hd2, ?_⟩
      refine (down_ok (Z.ext hd2) Zg (fr := g.row) (to := g.bottom) hr1 (by omega) hb2).mono fun e u3 ⟨he, Z3, hu3⟩ => ⟨he, by simp only [inK]; omega, ⟨?_, UB.trans (hu2.ext hd2) (UB.cells hu3), by omega, by omega⟩, by dsimp only; omega⟩
      rw [if_pos hch]
      rw [rollG_more hg (by omega) hb2 (by omega), show -1 + -x = -(x + 1) by omega] at Z3
      exact Z3
    · have hd2 : Ext u2 (drewW u2) := (Upd.refl u2).drew
      rw [if_neg hch] at Z
      have Zg := hg.roll g.row g.bottom x
      refine ⟨_, rfl, Z.rdRow hd2, _, rfl, Z.rdBottom hd2, ?_⟩
      refine (up_ok (Z.ext hd2) Zg (fr := g.row) (to := g.bottom) hr1 (by omega) hb2).mono fun e u3 ⟨he, Z3, hu3⟩ => ⟨he, by simp only [inK]; omega, ⟨?_, UB.trans (hu2.ext hd2) (UB.cells hu3), by omega, by omega⟩, by dsimp only; omega⟩
      rw [if_neg hch]
      rw [rollG_more hg (by omega) hb2 (by omega), show 1 + x = x + 1 by omega] at Z3
      exact Z3
    · have hx' : x = min N 10 := by omega
      rw [hx'] at Z
      have hN' : (if ch = 76 then -min N 10 else min N 10) = (if ch = 76 then - min N 10 else min N 10) := rfl
      exact Z.put (g' := { rollG g g.row g.bottom (if ch = 76 then - min N 10 else min N 10) with col := 0 }) rfl rfl

end Go.Proofs.YtkmmphkjmamckabDoor

/-
  The screen's functions, on: a picture, an event.
-/
namespace Go.Proofs.YtkmmphkjmamckabDoor
open Go
set_option linter.all false

theorem drop_at {l : List UInt8} {i : Nat} {b : UInt8} (h : l[i]? = some b) : l.drop i = b :: l.drop (i + 1) := by
  obtain ⟨hi, rfl⟩ := List.getElem?_eq_some_iff.1 h
  exact List.drop_eq_getElem_cons hi

theorem bytes_size (s : ByteArray) : s.data.toList.length = s.size := by rw [Array.length_toList]; rfl

theorem picC_cons (w h left : Int) (b : UInt8) (bs : List UInt8) (r c : Int) (l : List Cl) : picC w h left (b :: bs) r c l =
    if b.toNat = 45 then picC w h left bs (r + 1) left l
    else if 97 ≤ b.toNat ∧ b.toNat < 105 ∧ r < h ∧ c < w then picC w h left bs r (c + 1) (l.set (r * w + c).toNat ⟨0, 0, (b.toNat : Int) - 96, false⟩)
    else picC w h left bs r (c + 1) l := rfl

/-- So far a picture is drawn. -/
structure PicI (u : World) (gb : Nat) (g : Gr) (b c : Nat) (s : List UInt8) (r cl x : Int) (l : List Cl) (u1 : World) : Prop where
  scr : GB u1 gb { g with cells := l } b c
  good : GoodG { g with cells := l }
  upd : Upd (UB gb b) u u1
  x0 : 0 ≤ x
  x1 : x ≤ s.length
  r0 : 0 ≤ r
  r1 : r ≤ 10 + x
  c0 : 0 ≤ cl
  c1 : cl ≤ 24 + x
  eq : picC g.wide g.high (min g.col (g.wide - 1)) s g.row (min g.col (g.wide - 1)) g.cells = picC g.wide g.high (min g.col (g.wide - 1)) (s.drop x.toNat) r cl l

theorem gpicture_ok {u : World} {gb : Nat} {g : Gr} {b c : Nat} (h : GB u gb g b c) (hg : GoodG g) (s : ByteArray) (hs : s.size ≤ 100000000) :
    Spec Tryd.prog fn_grid_picture #[.pointer (some ⟨gb, 0, none⟩), .string s] u (GDone u gb b c (pictureG g s.data.toList)) := by
  apply vc_grid_picture_spec
  unfold vc_grid_picture
  simp only [decide_eq_true_eq, decide_eq_false_iff_not]
  have hu : Ext u (drewW u) := (Upd.refl u).drew
  have hw1 := hg.w1
  have hw2 := hg.w2
  have hh2 := hg.h2
  have hr1 := hg.r1
  have hr2 := hg.r2
  have hc1 := hg.c1
  have hlen := bytes_size s
  refine ⟨_, rfl, h.rdRow hu, _, rfl, h.rdCol hu, _, rfl, h.rdWide hu, by simp only [inK]; omega, fun r cl x u1 => ∃ l, PicI u gb g b c s.data.toList r cl x l u1, fun _ _ x _ => (s.size - x).toNat, ⟨g.cells, h.ext hu, hg, hu.any, Int.le_refl _, by omega, hr1, by omega, by omega, by omega, by simp⟩, fun r cl x u1 ⟨l, I⟩ => ⟨fun hx => ?_, fun hx => ?_⟩⟩
  · obtain ⟨i1, i2, i3, i4, i5, i6, i7, i8, i9, i10⟩ := I
    have hb : s.data.toList[x.toNat]? = some (s.data.toList[x.toNat]'(by omega)) := List.getElem?_eq_getElem _
    generalize s.data.toList[x.toNat]'(by omega) = ch at hb
    have hch : ch.toNat < 256 := ch.toNat_lt
    have hx1 : (x + 1).toNat = x.toNat + 1 := by omega
    rw [drop_at hb] at i10
    rw [picC_cons] at i10
    -- nothing comes of the byte but a place on
    have skip : ¬ ch.toNat = 45 → ¬ (97 ≤ ch.toNat ∧ ch.toNat < 105 ∧ r < g.high ∧ cl < g.wide) → inK .i64 (cl + 1) ∧ inK .i64 (x + 1) ∧ (∃ l, PicI u gb g b c s.data.toList r (cl + 1) (x + 1) l u1) ∧ (s.size - (x + 1)).toNat < (s.size - x).toNat := fun h1 h2 => by
      rw [if_neg h1, if_neg h2, ← hx1] at i10
      exact ⟨by simp only [inK]; omega, by simp only [inK]; omega, ⟨l, i1, i2, i3, by omega, by omega, i6, by omega, by omega, by omega, i10⟩, by omega⟩
    refine ⟨i4, ch, hb, by simp only [inK]; omega, fun h45 => ?_, fun h45 => ⟨fun h97 => ⟨fun h105 => ⟨_, rfl, i1.rdHigh (Upd.refl _), fun hrh => ⟨_, rfl, i1.rdWide (Upd.refl _), fun hcw => ?_, fun hcw => ?_⟩, fun hrh => ?_⟩, fun h105 => ?_⟩, fun h97 => ?_⟩⟩
    · rw [if_pos (by omega), ← hx1] at i10
      exact ⟨by simp only [inK]; omega, by simp only [inK]; omega, ⟨l, i1, i2, i3, by omega, by omega, by omega, by omega, by omega, by omega, i10⟩, by dsimp only; omega⟩
    · refine (row_ok i1 i2 i6 hrh).mono fun e u2 ⟨c', he, hu2⟩ => ⟨_, _, _, he, by simp only [inK]; omega, by simp only [inK]; omega, b, _, rfl, i8, ?_, rfl, ?_, by simp only [inK]; omega, by simp only [inK]; omega, ?_, by dsimp only; omega⟩
      · show cl < ((g.wide.toNat : Nat) : Int)
        have : cl < g.wide := hcw
        omega
      all_goals
        have hcw' : cl < g.wide := hcw
        have q0 := row_facts i2 i6 (by show r ≤ g.high; have : r < g.high := hrh; omega)
        have q1 := row_facts i2 (r := r + 1) (by omega) (by show r + 1 ≤ g.high; have : r < g.high := hrh; omega)
        rw [succ_mul'] at q1
        dsimp only at q0 q1
      · exact (i1.ext hu2).own.wr (by show 0 + (r * g.wide).toNat * 4 + cl.toNat * 4 + 4 ≤ l.length * 4; omega)
      · have Y := (i1.ext hu2).cell ⟨0, 0, ((ch.toNat : Nat) : Int) - 97 + 1, false⟩ (i := (r * g.wide + cl).toNat) (o := 0 + (r * g.wide).toNat * 4 + cl.toNat * 4) (by show (r * g.wide + cl).toNat < l.length; omega) (by omega)
        rw [if_neg (by omega), if_pos ⟨by omega, by omega, hrh, hcw⟩, ← hx1, show ((ch.toNat : Nat) : Int) - 96 = (ch.toNat : Nat) - 97 + 1 by omega] at i10
        refine ⟨_, Y, ?_, UB.putC (i3.ext hu2) _ _, by omega, by omega, i6, by omega, by omega, by omega, i10⟩
        refine hg.cellsWith ?_ (AllG.set i2.all ?_ _)
        · rw [List.length_set]
          have a : (l.length : Int) = g.wide * g.high := i2.len
          have b := hg.len
          show l.length = g.cells.length
          omega
        · rw [goodC_iff]
          dsimp only
          refine ⟨by omega, .inr ⟨by omega, rfl, rfl, rfl⟩⟩
    · exact skip (by omega) (fun h => hcw h.2.2.2)
    · exact skip (by omega) (fun h => hrh h.2.2.1)
    · exact skip (by omega) (by omega)
    · exact skip (by omega) (by omega)
  · obtain ⟨i1, i2, i3, i4, i5, i6, i7, i8, i9, i10⟩ := I
    rw [List.drop_eq_nil_of_le (by omega)] at i10
    refine ⟨rfl, ?_, i3⟩
    unfold pictureG
    rw [i10]
    exact i1

/-- A screen and a number have come. -/
structure GPost (u : World) (p : Option Addr) (c : Nat) (r : Gr × Int) (e : Ending) (u' : World) : Prop where
  ex : ∃ p' c', e = .returned (.tuple #[GrV r.1 p' r.1.cells.length c', .int .i64 r.2]) ∧ Cells u' p' r.1.cells ∧ (∀ k, At p' k → At p k ∨ u.heap.size ≤ k) ∧ (r.2 ≠ 0 → p' = p ∧ c' = c) ∧ (r.2 = 0 → r.1.cells.length ≤ c')
  ext : Ext u u'

theorem GPost.same {u u' : World} {g : Gr} {p : Option Addr} {c : Nat} {n : Int} (hn : n ≠ 0) (h : Cells u p g.cells) (hu : Ext u u') : GPost u p c (g, n) (.returned (.tuple #[GrV g p g.cells.length c, .int .i64 n])) u' :=
  ⟨⟨p, c, rfl, h.ext hu, fun _ h => .inl h, fun _ => ⟨rfl, rfl⟩, fun h => (hn h).elim⟩, hu⟩

theorem GPost.own {u u' : World} {g : Gr} {p : Option Addr} {c gb b c' : Nat} {v : World} (hv : Ext u v) (h : GB u' gb g b c') (hu : Upd (UB gb b) v u') (h1 : u.heap.size ≤ gb) (h2 : u.heap.size ≤ b) : GPost u p c (g, 0) (.returned (.tuple #[GrV g (some ⟨b, 0, none⟩) g.cells.length c', .int .i64 0])) u' :=
  ⟨⟨_, c', rfl, h.own.cells, fun k hk => .inr (by obtain ⟨a, ha, rfl⟩ := hk; cases ha; exact h2), fun h => (h rfl).elim, fun _ => h.own.le⟩, hv.trans hu fun k hk h => by rcases h with rfl | rfl <;> omega⟩

theorem gdo_ok {u : World} {g : Gr} {p : Option Addr} (h : Cells u p g.cells) (c : Nat) (hl : g.cells.length ≤ 100000000) (e : Ev) {ep : Option Addr} {en ec : Nat} (he : Nums u ep en e.ps) (hen : en ≤ 100000000) (hpl : e.pl.size ≤ 100000000) :
    Spec Tryd.prog fn_grid_Do #[GrV g p g.cells.length c, EvV e ep en ec] u (GPost u p c (doG g e)) := by
  apply vc_grid_Do_spec
  unfold vc_grid_Do
  simp only [decide_eq_true_eq, decide_eq_false_iff_not, Bool.not_eq_true', Bool.not_eq_false']
  have hu : Ext u (allocW (allocW (allocW u hole) hole) hole) := (((Upd.refl u).alloc _).alloc _).alloc _
  refine (ggood_ok (h.ext hu) c (by omega)).mono fun r u1 ⟨hr, hu1⟩ => ⟨_, hr, fun hb => ?_, fun hb => ?_⟩
  · have hd : doG g e = (g, 1) := by unfold doG; rw [if_pos hb]
    rw [hd]
    exact GPost.same (by decide) h (hu.ext hu1)
  have hg := goodG_iff.1 hb
  have x1 := hu.ext hu1
  have hdo := fun e => do_good_eq' hg e
  have hla : Ext u1 (allocW u1 (.cells ([.int .i64 0, .int .i64 0, .slice none 0 0, .int .i64 0, .int .i64 0, .int .i64 0, .bool false, .int .i64 0, .int .i64 0] : List Value).toArray ty_api_Grid)) := (Upd.refl u1).alloc _
  have B0 := Blk.fresh u1 [.int .i64 0, .int .i64 0, .slice none 0 0, .int .i64 0, .int .i64 0, .int .i64 0, .bool false, .int .i64 0, .int .i64 0] ty_api_Grid
  have B1 := B0.putAt (o := 0) (ys := grV g p g.cells.length c) (r := grV g p g.cells.length c) rfl
  have hlp : Ext u1 (putCells (allocW u1 (.cells ([.int .i64 0, .int .i64 0, .slice none 0 0, .int .i64 0, .int .i64 0, .int .i64 0, .bool false, .int .i64 0, .int .i64 0] : List Value).toArray ty_api_Grid)) u1.heap.size 0 (grV g p g.cells.length c)) := hla.put (fun h => by omega) _ _
  refine ⟨rfl, B0.wr (by simp), ?_⟩
  have hpos : 0 < g.cells.length := by
    have a := hg.len
    have b := Int.mul_pos (show (0 : Int) < g.wide by have := hg.w1; omega) (show (0 : Int) < g.high by have := hg.h1; omega)
    omega
  refine (gclone_ok (h.ext (x1.ext hlp)) c hl hpos).mono fun r u2 ⟨b, c', hr, ho, hu2, hbn⟩ => ⟨_, _, _, hr, rfl, ?_⟩
  have B2 := B1.ext hu2
  have hsz : u1.heap.size < b := by
    rw [put_size, size_alloc] at hbn
    omega
  have S : GB (putCells u2 u1.heap.size (0 + 2) [.slice (some ⟨b, 0, none⟩) g.cells.length c']) u1.heap.size g b c' := ⟨B2.putAt rfl, ho.upd (upd_put _ _ _) (by omega), by omega⟩
  have hv : Ext u (putCells u2 u1.heap.size (0 + 2) [.slice (some ⟨b, 0, none⟩) g.cells.length c']) := ((x1.ext hlp).ext hu2).put (fun h => by have := x1.size; omega) _ _
  have hs1 := x1.size
  have hev := he.ext hv
  have hav : en ≠ 0 → ∀ k, At ep k → ¬ UB u1.heap.size b k := fun h0 k hk hb => by
    have hlt : k < u.heap.size := by
      obtain ⟨a, ha, rfl⟩ := hk
      obtain ⟨b', o', hp', hr'⟩ := he.at (i := 0) (by omega)
      rw [ha] at hp'
      cases hp'
      exact rd_lt hr'
    rcases hb with rfl | rfl <;> omega
  refine ⟨B2.wr (by simp), ?_⟩
  generalize putCells u2 u1.heap.size (0 + 2) [.slice (some ⟨b, 0, none⟩) g.cells.length c'] = v at S hv hev
  rw [hdo]
  refine ⟨fun k1 => ?_, fun k1 => ?_⟩
  · rw [if_pos k1]
    refine ⟨fun hlt => ?_, fun hlt => ⟨fun hgt => ?_, fun hgt => ?_⟩⟩
    · rw [if_pos (.inl hlt)]; exact GPost.same (by decide) h hv
    · rw [if_pos (.inr hgt)]; exact GPost.same (by decide) h hv
    · rw [if_neg (by omega)]
      exact (gshow_ok S hg).mono fun r u3 ⟨hr, S3, hu3⟩ => ⟨hr, _, _, _, _, _, _, _, _, _, _, _, rfl, S3.rdAll (Upd.refl _), GPost.own hv S3 hu3 hs1 (by omega)⟩
  rw [if_neg k1]
  refine ⟨fun k2 => ?_, fun k2 => ?_⟩
  · rw [if_pos k2]
    exact (control_ok S hg).mono fun r u3 ⟨hr, S3, hu3⟩ => ⟨hr, _, _, _, _, _, _, _, _, _, _, _, rfl, S3.rdAll (Upd.refl _), GPost.own hv S3 hu3 hs1 (by omega)⟩
  rw [if_neg k2]
  refine ⟨fun k3 => ?_, fun k3 => ?_⟩
  · rw [if_pos k3]
    exact (gcommand_ok S hg hev hav hen).mono fun r u3 ⟨hr, S3, hu3⟩ => ⟨hr, _, _, _, _, _, _, _, _, _, _, _, rfl, S3.rdAll (Upd.refl _), GPost.own hv S3 hu3 hs1 (by omega)⟩
  rw [if_neg k3]
  refine ⟨fun k4 => ?_, fun k4 => ?_⟩
  · rw [if_pos k4]
    exact (gpicture_ok S hg e.pl hpl).mono fun r u3 ⟨hr, S3, hu3⟩ => ⟨hr, _, _, _, _, _, _, _, _, _, _, _, rfl, S3.rdAll (Upd.refl _), GPost.own hv S3 hu3 hs1 (by omega)⟩
  rw [if_neg k4]
  refine ⟨fun k5 => ?_, fun k5 => ?_⟩
  · rw [if_pos k5]
    refine (gnew_ok g.wide g.high).mono fun r u3 ⟨⟨nb, hr, hco, hnb⟩, hu3⟩ => ⟨_, _, _, _, _, _, _, _, _, _, _, hr, ⟨_, _, rfl, hco.cells, fun k hk => .inr ?_, fun h => (h rfl).elim, fun _ => Nat.le_refl _⟩, hv.ext hu3⟩
    obtain ⟨a, ha, rfl⟩ := hk
    cases ha
    have := hv.size
    show u.heap.size ≤ nb
    omega
  · rw [if_neg k5]
    exact GPost.same (by decide) h hv

end Go.Proofs.YtkmmphkjmamckabDoor

