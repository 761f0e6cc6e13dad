/-
  The screen's functions: what each answers.
-/
import Derived.Test.YtkmmphkjmamckacDoorZM
import Derived.Test.YtkmmphkjmamckacDoorVGrid
namespace Go.Proofs.YtkmmphkjmamckacDoor
open Go
set_option linter.all false

section
variable {u u' : World} {gb : Nat} {g : Gr} {b c : Nat}
theorem GB.rdWide (h : GB u gb g b c) (hu : Ext u u') : Rd u' gb (0 + 0) [.int .i64 g.wide] := (h.ext hu).blk.rdAt (n := 1) rfl
theorem GB.rdHigh (h : GB u gb g b c) (hu : Ext u u') : Rd u' gb (0 + 1) [.int .i64 g.high] := (h.ext hu).blk.rdAt (n := 1) rfl
theorem GB.rdCells (h : GB u gb g b c) (hu : Ext u u') : Rd u' gb (0 + 2) [.slice (some ⟨b, 0, none⟩) g.cells.length c] := (h.ext hu).blk.rdAt (n := 1) rfl
theorem GB.rdRow (h : GB u gb g b c) (hu : Ext u u') : Rd u' gb (0 + 3) [.int .i64 g.row] := (h.ext hu).blk.rdAt (n := 1) rfl
theorem GB.rdCol (h : GB u gb g b c) (hu : Ext u u') : Rd u' gb (0 + 4) [.int .i64 g.col] := (h.ext hu).blk.rdAt (n := 1) rfl
theorem GB.rdInk (h : GB u gb g b c) (hu : Ext u u') : Rd u' gb (0 + 5) [.int .i64 g.ink] := (h.ext hu).blk.rdAt (n := 1) rfl
theorem GB.rdBold (h : GB u gb g b c) (hu : Ext u u') : Rd u' gb (0 + 6) [.bool g.bold] := (h.ext hu).blk.rdAt (n := 1) rfl
theorem GB.rdTop (h : GB u gb g b c) (hu : Ext u u') : Rd u' gb (0 + 7) [.int .i64 g.top] := (h.ext hu).blk.rdAt (n := 1) rfl
theorem GB.rdBottom (h : GB u gb g b c) (hu : Ext u u') : Rd u' gb (0 + 8) [.int .i64 g.bottom] := (h.ext hu).blk.rdAt (n := 1) rfl
theorem GB.rdAll (h : GB u gb g b c) (hu : Ext u u') : Rd u' gb 0 (grV g (some ⟨b, 0, none⟩) g.cells.length c) := (h.ext hu).blk.rdAt (n := 9) rfl
end

theorem map_add (b o k : Nat) : Option.map (fun a => Addr.add a k) (some ⟨b, o, none⟩) = some ⟨b, o + k, none⟩ := by
  show some (Addr.add ⟨b, o, none⟩ k) = _
  rw [addr_add]

theorem GB.back {u u' : World} {gb : Nat} {g : Gr} {b c : Nat} {l : List Cl} (h : GB u gb g b c) (hu : Upd (· = b) u u') (ho : CO u' b c l) (hl : l.length = g.cells.length) : GB u' gb { g with cells := l } b c := by
  refine ⟨?_, ho, h.ne⟩
  show Blk _ gb (grV g _ l.length c)
  rw [hl]
  exact h.blk.upd hu h.ne.symm

theorem row_facts {g : Gr} (hg : GoodG g) {r : Int} (h0 : 0 ≤ r) (h1 : r ≤ g.high) : 0 ≤ r * g.wide ∧ r * g.wide ≤ (g.cells.length : Int) ∧ r * g.wide ≤ 240 ∧ (r * g.wide).toNat = r.toNat * g.wide.toNat := by
  have w1 := hg.w1
  have w2 := hg.w2
  have h2 := hg.h2
  have a : 0 ≤ r * g.wide := Int.mul_nonneg h0 (by omega)
  have b : r * g.wide ≤ g.high * g.wide := Int.mul_le_mul_of_nonneg_right h1 (by omega)
  have e : g.high * g.wide ≤ 10 * g.wide := Int.mul_le_mul_of_nonneg_right h2 (by omega)
  have l := hg.len
  rw [Int.mul_comm] at l
  refine ⟨a, by omega, by omega, ?_⟩
  obtain ⟨w, hw⟩ : ∃ w : Nat, g.wide = w := ⟨g.wide.toNat, by omega⟩
  obtain ⟨q, hq⟩ : ∃ q : Nat, r = q := ⟨r.toNat, by omega⟩
  rw [hw, hq]
  simp only [Int.toNat_natCast]
  rw [show (q : Int) * w = ((q * w : Nat) : Int) by simp, Int.toNat_natCast]

theorem few_cells {g : Gr} (hg : GoodG g) : g.cells.length ≤ 240 := by
  have := row_facts hg (r := g.high) (by have := hg.h1; omega) (Int.le_refl _)
  have l := hg.len
  rw [Int.mul_comm] at l
  omega

theorem succ_mul' (r w : Int) : (r + 1) * w = r * w + w := by rw [Int.add_mul, Int.one_mul]
theorem pred_mul' (r w : Int) : (r - 1) * w = r * w - w := by rw [Int.sub_mul, Int.one_mul]

theorem row_ok {u : World} {gb : Nat} {g : Gr} {b c : Nat} (h : GB u gb g b c) (hg : GoodG g) {r : Int} (h0 : 0 ≤ r) (h1 : r < g.high) :
    Spec Tryd.prog fn_grid_row #[.pointer (some ⟨gb, 0, none⟩), .int .i64 r] u fun e u' => ∃ c', e = .returned (.slice (some ⟨b, 0 + (r * g.wide).toNat * 4, none⟩) g.wide.toNat c') ∧ Ext u u' := by
  apply vc_grid_row_spec
  unfold vc_grid_row
  have hu : Ext u (drewW u) := (Upd.refl u).drew
  have f0 := row_facts hg h0 (by omega)
  have f1 := row_facts hg (r := r + 1) (by omega) (by omega)
  have w1 := hg.w1
  have hc := h.own.le
  have hfew := few_cells hg
  have e := succ_mul' r g.wide
  rw [e] at f1
  refine ⟨_, _, _, rfl, h.rdCells hu, _, rfl, h.rdWide hu, by simp only [inK]; omega, by have := hg.h2; simp only [inK]; omega, _, rfl, h.rdWide hu, ?_⟩
  rw [e]
  refine ⟨by simp only [inK]; omega, f0.1, by omega, by omega, c - (r * g.wide).toNat, ?_, hu⟩
  rw [if_neg (by omega), show (r * g.wide + g.wide).toNat - (r * g.wide).toNat = g.wide.toNat by omega, map_add]

theorem wipe_ok {u : World} {b c : Nat} {l : List Cl} (h : CO u b c l) (hl : l.length ≤ 100000000) {i n cc : Nat} (hn : i + n ≤ l.length) :
    Spec Tryd.prog fn_grid_wipe #[.slice (some ⟨b, 0 + i * 4, none⟩) n cc] u fun e u' => e = .returned (.tuple #[]) ∧ CO u' b c (eraseC i (i + n) l) ∧ Upd (· = b) u u' := by
  apply vc_grid_wipe_spec
  unfold vc_grid_wipe
  refine ⟨fun x u1 => ∃ l', CO u1 b c l' ∧ l'.length = l.length ∧ (∀ j, j < l.length → cg l' j = if i ≤ j ∧ j < i + x.toNat then .z else cg l j) ∧ Upd (· = b) u u1 ∧ 0 ≤ x ∧ x ≤ n, fun x _ => (n - x).toNat,
    ⟨l, h, rfl, fun j _ => by rw [if_neg (by omega)], Upd.refl _, by omega, by omega⟩, fun x u1 ⟨l', h1, h2, h3, h4, h5, h6⟩ => ⟨fun hx => ?_, fun hx => ?_⟩⟩
  · have hx' : x < n := by simpa using hx
    have hi : i + x.toNat < l'.length := by omega
    have hp := h1.set .z hi (o := 0 + i * 4 + x.toNat * 4) (by omega)
    refine ⟨b, _, rfl, h5, hx', rfl, h1.wr (by omega), by simp only [inK]; omega, ⟨_, hp, by rw [List.length_set, h2], fun j hj => ?_, h4.trans (upd_put _ _ _) fun _ _ h => h, by omega, by omega⟩, by dsimp only; omega⟩
    rw [cg_set hi, h3 j hj]
    by_cases e : j = i + x.toNat
    · rw [if_pos e, if_pos (by omega)]
    · rw [if_neg e]
      congr 1
      apply propext
      omega
  · have hx' : ¬ x < n := by simpa using hx
    refine ⟨rfl, ?_, h4⟩
    have : l' = eraseC i (i + n) l := by
      refine cg_ext (by rw [h2, eraseC_len]) fun j hj => ?_
      rw [h3 j (by omega), erase_cg (by omega), show x.toNat = n by omega]
    rw [← this]
    exact h1

/-- A part of one's own cells, as a slice of them. -/
theorem CO.cut {u : World} {b c : Nat} {l : List Cl} (h : CO u b c l) {i k : Nat} (hik : i + k ≤ l.length) : Gets u (if c = i then some ⟨b, 0, none⟩ else Option.map (fun a => Addr.add a (i * 4)) (some ⟨b, 0, none⟩)) (cellsV ((l.drop i).take k)) := by
  have hl := h.le
  split
  · next e =>
    have hk : k = 0 := by omega
    subst hk
    simp only [List.take_zero]
    exact gets_nil u _
  · rw [map_add]; exact (h.cells.sub hik).gets

theorem up_cells {w fr to : Nat} (hw : 0 < w) (h : fr < to) {l : List Cl} (hl : to * w ≤ l.length) :
    eraseC ((to - 1) * w) ((to - 1) * w + w) (overC l (fr * w) ((l.drop ((fr + 1) * w)).take (to * w - (fr + 1) * w))) = rollC w fr to 1 l := by
  have e1 : (fr + 1) * w = fr * w + w := by rw [Nat.add_mul, Nat.one_mul]
  have e2 : (to - 1) * w + w = to * w := by rw [Nat.sub_mul, Nat.one_mul]; have := Nat.mul_le_mul_right w (show 1 ≤ to by omega); omega
  have e3 : fr * w + w ≤ to * w := by rw [← e1]; exact Nat.mul_le_mul_right w h
  have hm : ((l.drop ((fr + 1) * w)).take (to * w - (fr + 1) * w)).length = to * w - (fr + 1) * w := by rw [List.length_take, List.length_drop]; omega
  have hov : fr * w + ((l.drop ((fr + 1) * w)).take (to * w - (fr + 1) * w)).length ≤ l.length := by rw [hm]; omega
  refine cg_ext (by rw [eraseC_len, rollC_len, overC_len hov]) fun j hj => ?_
  rw [eraseC_len, overC_len hov] at hj
  rw [erase_cg (by rw [overC_len hov]; exact hj), roll_cg hj, overC_cg hov, hm, e2]
  have d1 : j / w < fr ↔ j < fr * w := div_lt hw
  have d2 : to ≤ j / w ↔ to * w ≤ j := le_div hw
  have d3 : j / w < to - 1 ↔ j < (to - 1) * w := div_lt hw
  rw [e1]
  by_cases c1 : (to - 1) * w ≤ j ∧ j < to * w
  · rw [if_pos c1, if_neg (by omega), if_neg (by omega)]
  · rw [if_neg c1]
    by_cases c2 : fr * w ≤ j ∧ j < fr * w + (to * w - (fr * w + w))
    · rw [if_pos c2, if_neg (by omega), if_pos (by omega), cg_take (by omega), cg_drop]
      congr 1
      omega
    · rw [if_neg c2, if_pos (by omega)]

theorem down_cells {w fr to : Nat} (hw : 0 < w) (h : fr < to) {l : List Cl} (hl : to * w ≤ l.length) :
    eraseC (fr * w) (fr * w + w) (overC l ((fr + 1) * w) ((l.drop (fr * w)).take ((to - 1) * w - fr * w))) = rollC w fr to (-1) l := by
  have e1 : (fr + 1) * w = fr * w + w := by rw [Nat.add_mul, Nat.one_mul]
  have e2 : (to - 1) * w + w = to * w := by rw [Nat.sub_mul, Nat.one_mul]; have := Nat.mul_le_mul_right w (show 1 ≤ to by omega); omega
  have e3 : fr * w + w ≤ to * w := by rw [← e1]; exact Nat.mul_le_mul_right w h
  have hm : ((l.drop (fr * w)).take ((to - 1) * w - fr * w)).length = (to - 1) * w - fr * w := by rw [List.length_take, List.length_drop]; omega
  have hov : (fr + 1) * w + ((l.drop (fr * w)).take ((to - 1) * w - fr * w)).length ≤ l.length := by rw [hm]; omega
  refine cg_ext (by rw [eraseC_len, rollC_len, overC_len hov]) fun j hj => ?_
  rw [eraseC_len, overC_len hov] at hj
  rw [erase_cg (by rw [overC_len hov]; exact hj), roll_cg hj, overC_cg hov, hm, e1]
  have d1 : j / w < fr ↔ j < fr * w := div_lt hw
  have d2 : to ≤ j / w ↔ to * w ≤ j := le_div hw
  have d3 : j / w < fr + 1 ↔ j < (fr + 1) * w := div_lt hw
  rw [e1] at d3
  by_cases c1 : fr * w ≤ j ∧ j < fr * w + w
  · rw [if_pos c1, if_neg (by omega), if_neg (by omega)]
  · rw [if_neg c1]
    by_cases c2 : fr * w + w ≤ j ∧ j < fr * w + w + ((to - 1) * w - fr * w)
    · rw [if_pos c2, if_neg (by omega), if_pos (by omega), cg_take (by omega), cg_drop]
      congr 1
      omega
    · rw [if_neg c2, if_pos (by omega)]

theorem up_ok {u : World} {gb : Nat} {g : Gr} {b c : Nat} (h : GB u gb g b c) (hg : GoodG g) {fr to : Int} (h0 : 0 ≤ fr) (h1 : fr < to) (h2 : to ≤ g.high) :
    Spec Tryd.prog fn_grid_up #[.pointer (some ⟨gb, 0, none⟩), .int .i64 fr, .int .i64 to] u fun e u' => e = .returned (.tuple #[]) ∧ GB u' gb (rollG g fr to 1) b c ∧ Upd (· = b) u u' := by
  apply vc_grid_up_spec
  unfold vc_grid_up
  have hu : Ext u (drewW u) := (Upd.refl u).drew
  have hd := h.ext hu
  have w1 := hg.w1
  have hh2 := hg.h2
  have f0 := row_facts hg h0 (by omega)
  have f1 := row_facts hg (r := fr + 1) (by omega) (by omega)
  have f2 := row_facts hg (r := to) (by omega) h2
  have f3 := row_facts hg (r := to - 1) (by omega) (by omega)
  have hc := h.own.le
  have hfew := few_cells hg
  have e1 := succ_mul' fr g.wide
  have e3 := pred_mul' to g.wide
  have hle : fr * g.wide + g.wide ≤ to * g.wide := by
    rw [← e1]; exact Int.mul_le_mul_of_nonneg_right (by omega) (by omega)
  have hm : min ((to * g.wide).toNat - ((fr + 1) * g.wide).toNat) (((g.cells.length : Nat) : Int).toNat - (fr * g.wide).toNat) = to.toNat * g.wide.toNat - (fr.toNat + 1) * g.wide.toNat := by
    rw [e1] at f1 ⊢
    have : (fr + 1).toNat = fr.toNat + 1 := by omega
    rw [this] at f1
    rw [← f1.2.2.2, ← f2.2.2.2]
    omega
  have hn : (fr.toNat + 1) * g.wide.toNat = ((fr + 1) * g.wide).toNat := by rw [f1.2.2.2]; congr 1; omega
  have hcut := hd.own.cut (i := ((fr + 1) * g.wide).toNat) (k := to.toNat * g.wide.toNat - (fr.toNat + 1) * g.wide.toNat) (by rw [hn, ← f2.2.2.2]; omega)
  have hlen : ((g.cells.drop ((fr + 1) * g.wide).toNat).take (to.toNat * g.wide.toNat - (fr.toNat + 1) * g.wide.toNat)).length = to.toNat * g.wide.toNat - (fr.toNat + 1) * g.wide.toNat := by
    rw [List.length_take, List.length_drop, hn, ← f2.2.2.2]; omega
  refine ⟨_, _, _, rfl, h.rdCells hu, _, rfl, h.rdWide hu, by simp only [inK]; omega, f0.1, by omega, by omega, _, _, _, rfl, h.rdCells hu, by simp only [inK]; omega, _, rfl, h.rdWide hu, by simp only [inK]; omega, _, rfl, h.rdWide hu, by simp only [inK]; omega, f1.1, by omega, by omega,
    cellsV ((g.cells.drop ((fr + 1) * g.wide).toNat).take (to.toNat * g.wide.toNat - (fr.toNat + 1) * g.wide.toNat)), by rw [cellsV_len, hlen, hm], hcut, (cellsV_ok _ _).2 trivial, ?_, by simp only [inK]; omega, ?_⟩
  · rw [if_neg (by omega), hm, map_add]
    refine ⟨fun _ => rfl, hd.own.wr ?_⟩
    show 0 + (fr * g.wide).toNat * 4 + 0 + _ ≤ _
    rw [hn, ← f2.2.2.2]
    omega
  · rw [if_neg (by omega), map_add]
    have hp := hd.cells (i := (fr * g.wide).toNat) (m := (g.cells.drop ((fr + 1) * g.wide).toNat).take (to.toNat * g.wide.toNat - (fr.toNat + 1) * g.wide.toNat)) (o := 0 + (fr * g.wide).toNat * 4 + 0) (by rw [hlen, hn, ← f2.2.2.2]; omega) (by omega)
    have hup := upd_put (u := drewW u) b (0 + (fr * g.wide).toNat * 4 + 0) (cellsV ((g.cells.drop ((fr + 1) * g.wide).toNat).take (to.toNat * g.wide.toNat - (fr.toNat + 1) * g.wide.toNat)))
    have hl2 : (overC g.cells (fr * g.wide).toNat ((g.cells.drop ((fr + 1) * g.wide).toNat).take (to.toNat * g.wide.toNat - (fr.toNat + 1) * g.wide.toNat))).length = g.cells.length := overC_len (by rw [hlen, hn, ← f2.2.2.2]; omega)
    have hg2 : GoodG { g with cells := overC g.cells (fr * g.wide).toNat ((g.cells.drop ((fr + 1) * g.wide).toNat).take (to.toNat * g.wide.toNat - (fr.toNat + 1) * g.wide.toNat)) } := hg.cellsWith hl2 fun x hx => by
      obtain ⟨j, hj, rfl⟩ := mem_cg hx
      rw [overC_cg (by rw [hlen, hn, ← f2.2.2.2]; omega)]
      split
      · rcases Nat.lt_or_ge (j - (fr * g.wide).toNat) ((g.cells.drop ((fr + 1) * g.wide).toNat).take (to.toNat * g.wide.toNat - (fr.toNat + 1) * g.wide.toNat)).length with hh | hh
        · exact hg.all _ (List.mem_of_mem_drop (List.mem_of_mem_take (cg_mem hh)))
        · rw [cg_out hh]; rfl
      · exact AllG.cg hg.all _
    refine (row_ok hp hg2 (r := to - 1) (by omega) (by show to - 1 < g.high; omega)).mono fun e u1 ⟨c', he, hu1⟩ => ⟨_, _, _, he, ?_⟩
    have hp1 := hp.ext hu1
    refine (wipe_ok hp1.own (by rw [hl2]; omega) (i := ((to - 1) * g.wide).toNat) (n := g.wide.toNat) (by rw [hl2]; omega)).mono fun e u2 ⟨he, ho, hu2⟩ => ⟨he, rfl, ?_, (((hu.any (S := (· = b))).trans hup fun _ _ h => h).ext hu1).trans hu2 fun _ _ h => h⟩
    have hb := hp1.back hu2 ho (by rw [eraseC_len])
    have hcells := up_cells (w := g.wide.toNat) (fr := fr.toNat) (to := to.toNat) (l := g.cells) (by omega) (by omega) (by rw [← f2.2.2.2]; omega)
    have heq : rollG g fr to 1 = { g with cells := eraseC ((to - 1) * g.wide).toNat (((to - 1) * g.wide).toNat + g.wide.toNat) (overC g.cells (fr * g.wide).toNat ((g.cells.drop ((fr + 1) * g.wide).toNat).take (to.toNat * g.wide.toNat - (fr.toNat + 1) * g.wide.toNat))) } := by
      unfold rollG
      rw [← hcells, f3.2.2.2, f0.2.2.2, hn, show (to - 1).toNat = to.toNat - 1 by omega]
    rw [heq]
    exact hb

theorem down_ok {u : World} {gb : Nat} {g : Gr} {b c : Nat} (h : GB u gb g b c) (hg : GoodG g) {fr to : Int} (h0 : 0 ≤ fr) (h1 : fr < to) (h2 : to ≤ g.high) :
    Spec Tryd.prog fn_grid_down #[.pointer (some ⟨gb, 0, none⟩), .int .i64 fr, .int .i64 to] u fun e u' => e = .returned (.tuple #[]) ∧ GB u' gb (rollG g fr to (-1)) b c ∧ Upd (· = b) u u' := by
  apply vc_grid_down_spec
  unfold vc_grid_down
  have hu : Ext u (drewW u) := (Upd.refl u).drew
  have hd := h.ext hu
  have w1 := hg.w1
  have hh2 := hg.h2
  have f0 := row_facts hg h0 (by omega)
  have f1 := row_facts hg (r := fr + 1) (by omega) (by omega)
  have f2 := row_facts hg (r := to) (by omega) h2
  have f3 := row_facts hg (r := to - 1) (by omega) (by omega)
  have hc := h.own.le
  have hfew := few_cells hg
  have e1 := succ_mul' fr g.wide
  have e3 := pred_mul' to g.wide
  have hle : fr * g.wide + g.wide ≤ to * g.wide := by
    rw [← e1]; exact Int.mul_le_mul_of_nonneg_right (by omega) (by omega)
  have hn1 : (fr.toNat + 1) * g.wide.toNat = ((fr + 1) * g.wide).toNat := by rw [f1.2.2.2]; congr 1; omega
  have hn3 : (to.toNat - 1) * g.wide.toNat = ((to - 1) * g.wide).toNat := by rw [f3.2.2.2]; congr 1; omega
  have hm : min (((to - 1) * g.wide).toNat - (fr * g.wide).toNat) ((to * g.wide).toNat - ((fr + 1) * g.wide).toNat) = ((to - 1) * g.wide).toNat - (fr * g.wide).toNat := by omega
  have hik : (fr * g.wide).toNat + (((to - 1) * g.wide).toNat - (fr * g.wide).toNat) ≤ g.cells.length := by omega
  have hcut := hd.own.cut hik
  have hlen : ((g.cells.drop (fr * g.wide).toNat).take (((to - 1) * g.wide).toNat - (fr * g.wide).toNat)).length = ((to - 1) * g.wide).toNat - (fr * g.wide).toNat := by
    rw [List.length_take, List.length_drop]; omega
  have hov : ((fr + 1) * g.wide).toNat + ((g.cells.drop (fr * g.wide).toNat).take (((to - 1) * g.wide).toNat - (fr * g.wide).toNat)).length ≤ g.cells.length := by rw [hlen]; omega
  have hl2 := overC_len hov
  have hg2 : GoodG { g with cells := overC g.cells ((fr + 1) * g.wide).toNat ((g.cells.drop (fr * g.wide).toNat).take (((to - 1) * g.wide).toNat - (fr * g.wide).toNat)) } := hg.cellsWith hl2 fun x hx => by
    obtain ⟨j, hj, rfl⟩ := mem_cg hx
    rw [overC_cg hov]
    split
    · rcases Nat.lt_or_ge (j - ((fr + 1) * g.wide).toNat) ((g.cells.drop (fr * g.wide).toNat).take (((to - 1) * g.wide).toNat - (fr * g.wide).toNat)).length with hh | hh
      · exact hg.all _ (List.mem_of_mem_drop (List.mem_of_mem_take (cg_mem hh)))
      · rw [cg_out hh]; rfl
    · exact AllG.cg hg.all _
  -- what follows, where the cells were copied
  have rest : ∀ v : World, GB v gb { g with cells := overC g.cells ((fr + 1) * g.wide).toNat ((g.cells.drop (fr * g.wide).toNat).take (((to - 1) * g.wide).toNat - (fr * g.wide).toNat)) } b c → Upd (· = b) u v →
      Spec Tryd.prog fn_grid_row #[.pointer (some ⟨gb, 0, none⟩), .int .i64 fr] v (fun e u1 => ∃ (x45_p : Option Addr) (x45_n x45_c : Nat), e = .returned (.slice x45_p x45_n x45_c) ∧
      Spec Tryd.prog fn_grid_wipe #[.slice x45_p x45_n x45_c] u1 (fun e u11 => e = .returned (.tuple #[]) ∧ (Ending.returned (.tuple #[]) = .returned (.tuple #[]) ∧ GB u11 gb (rollG g fr to (-1)) b c ∧ Upd (· = b) u u11))) := fun v hp hv => by
    refine (row_ok hp hg2 (r := fr) (by omega) (by show fr < g.high; omega)).mono fun e u1 ⟨c', he, hu1⟩ => ⟨_, _, _, he, ?_⟩
    have hp1 := hp.ext hu1
    refine (wipe_ok hp1.own (by rw [hl2]; omega) (i := (fr * g.wide).toNat) (n := g.wide.toNat) (by rw [hl2]; omega)).mono fun e u2 ⟨he, ho, hu2⟩ => ⟨he, rfl, ?_, (hv.ext hu1).trans hu2 fun _ _ h => h⟩
    have hb := hp1.back hu2 ho (by rw [eraseC_len])
    have hcells := down_cells (w := g.wide.toNat) (fr := fr.toNat) (to := to.toNat) (l := g.cells) (by omega) (by omega) (by rw [← f2.2.2.2]; omega)
    have heq : rollG g fr to (-1) = { g with cells := eraseC (fr * g.wide).toNat ((fr * g.wide).toNat + g.wide.toNat) (overC g.cells ((fr + 1) * g.wide).toNat ((g.cells.drop (fr * g.wide).toNat).take (((to - 1) * g.wide).toNat - (fr * g.wide).toNat))) } := by
      unfold rollG
      rw [← hcells, ← hn1, ← hn3, f0.2.2.2]
    rw [heq]
    exact hb
  refine ⟨_, _, _, rfl, h.rdCells hu, by simp only [inK]; omega, _, rfl, h.rdWide hu, by simp only [inK]; omega, _, rfl, h.rdWide hu, by simp only [inK]; omega, f1.1, by omega, by omega, _, _, _, rfl, h.rdCells hu, _, rfl, h.rdWide hu, by simp only [inK]; omega, by simp only [inK]; omega, _, rfl, h.rdWide hu, by simp only [inK]; omega, f0.1, by omega, by omega,
    cellsV ((g.cells.drop (fr * g.wide).toNat).take (((to - 1) * g.wide).toNat - (fr * g.wide).toNat)), by rw [cellsV_len, hlen, hm], hcut, (cellsV_ok _ _).2 trivial, ?_, ?_⟩
  · rw [hm]
    split
    · next e =>
      have : ((to - 1) * g.wide).toNat - (fr * g.wide).toNat = 0 := by omega
      rw [this]
      exact ⟨fun h => absurd rfl h, fun j hj => by omega⟩
    · rw [map_add]
      refine ⟨fun _ => rfl, hd.own.wr ?_⟩
      show 0 + ((fr + 1) * g.wide).toNat * 4 + 0 + _ ≤ _
      omega
  · split
    · next e =>
      have hz : ((to - 1) * g.wide).toNat - (fr * g.wide).toNat = 0 := by omega
      refine rest _ ?_ ?_
      · rw [hz, List.take_zero]
        show GB (drewW u) gb _ b c
        have : overC g.cells ((fr + 1) * g.wide).toNat [] = g.cells := by simp [overC]
        rw [this]
        exact hd
      · rw [hz, List.take_zero]
        exact hu.any
    · rw [map_add]
      exact rest _ (hd.cells (o := 0 + ((fr + 1) * g.wide).toNat * 4 + 0) hov (by omega)) ((hu.any (S := (· = b))).trans (upd_put _ _ _) fun _ _ h => h)

end Go.Proofs.YtkmmphkjmamckacDoor
