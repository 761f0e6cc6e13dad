/-
  The parser's functions: what each answers.
-/
import Derived.Test.YtkmmphkjmamckabDoorZM
import Derived.Test.YtkmmphkjmamckabDoorZVc
import Derived.Test.YtkmmphkjmamckabDoorPClone
namespace Go.Proofs.YtkmmphkjmamckabDoor
open Go
set_option linter.all false

theorem good_ok (pr : Pr) (s_p : Option Addr) (s_n s_c : Nat) {u : World} (h : Nums u s_p s_n pr.ps) :
    Spec Tryd.prog fn_parse_Good #[PrV pr s_p s_n s_c] u fun e u' => ∃ g, e = .returned (.bool g) ∧ (g = true ↔ GoodP pr) ∧ Ext u u' := by
  apply vc_parse_Good_spec
  unfold vc_parse_Good
  obtain ⟨a, ps, pl, lg⟩ := pr
  simp only at h
  have hlen := h.2
  have hu : Ext u (allocW u hole) := (Upd.refl u).alloc _
  have no : ∀ {u1 : World}, Ext u u1 → ¬ GoodP ⟨a, ps, pl, lg⟩ → ∃ g, Ending.returned (.bool false) = .returned (.bool g) ∧ (g = true ↔ GoodP ⟨a, ps, pl, lg⟩) ∧ Ext u u1 := fun hu1 hn => ⟨false, rfl, by simp [hn], hu1⟩
  simp only [decide_eq_false_iff_not, decide_eq_true_eq, true_and, noBytes_iff]
  refine ⟨fun h1 => no hu fun g => by have := g.lo; simp only at this; omega, fun h1 => ⟨fun h2 => no hu fun g => by have := g.hi; simp only at this; omega, fun h2 => ⟨fun h3 => no hu fun g => by have := g.len; simp only at this; omega, fun h3 => ⟨fun h4 => no hu fun g => by have := g.pay; simp only at this; omega, fun h4 => ?_⟩⟩⟩⟩
  refine ⟨fun x u1 => Ext u u1 ∧ 0 ≤ x ∧ x ≤ s_n ∧ ∀ i : Nat, i < x.toNat → okNum (ps.getD i 0), fun x _ => (s_n - x).toNat, ⟨hu, by omega, by omega, by omega⟩, fun x u1 ⟨hu1, h0, hx, hi⟩ => ⟨fun hlt => ?_, fun hlt => ?_⟩⟩
  · obtain ⟨b, o, hp, hr⟩ := (h.ext hu1).at (i := x.toNat) (by omega)
    have bad : ¬ okNum (ps.getD x.toNat 0) → ¬ GoodP ⟨a, ps, pl, lg⟩ := fun hb g => hb (g.nums _ (by
      show ps.getD x.toNat 0 ∈ ps
      rw [List.getD_eq_getElem?_getD, List.getElem?_eq_getElem (by omega)]
      exact List.getElem_mem _))
    refine ⟨b, o, hp, h0, hlt, _, rfl, hr, fun h5 => no hu1 (bad fun h => by have := h.1; omega), fun h5 => ⟨fun h6 => no hu1 (bad fun h => by have := h.2; omega), fun h6 => ⟨by simp only [inK]; omega, ⟨hu1, by omega, by omega, fun i hi' => ?_⟩, by first | omega | (dsimp only; omega)⟩⟩⟩
    rcases (by omega : i < x.toNat ∨ i = x.toNat) with h | rfl
    · exact hi i h
    · exact ⟨by omega, by omega⟩
  · have hnums : ∀ n ∈ ps, okNum n := fun n hn => by
      obtain ⟨i, hi2, rfl⟩ := List.getElem_of_mem hn
      have := hi i (by omega)
      simpa [List.getD_eq_getElem?_getD, List.getElem?_eq_getElem hi2] using this
    have key : (GoodP ⟨a, ps, pl, lg⟩) ↔ (a = 2 ↔ 0 < ps.length) ∧ (a = 3 ∨ a = 4 ∨ (pl = noBytes ∧ lg = false)) := ⟨fun g => ⟨g.cmd, g.rest⟩, fun g => ⟨by simp only; omega, by simp only; omega, by simp only; omega, by simp only; omega, hnums, g.1, g.2⟩⟩
    have hcmd : (decide (a = 2) == decide ((0 : Int) < (s_n : Nat))) = true ↔ (a = 2 ↔ 0 < ps.length) := by
      rw [beq_iff_eq, decide_eq_decide]
      omega
    have hcmd' : (decide (a = 2) == decide ((0 : Int) < (s_n : Nat))) = false ↔ ¬ (a = 2 ↔ 0 < ps.length) := by rw [← hcmd, Bool.not_eq_true]
    have yes : (GoodP ⟨a, ps, pl, lg⟩) → ∃ g, Ending.returned (.bool true) = .returned (.bool g) ∧ (g = true ↔ GoodP ⟨a, ps, pl, lg⟩) ∧ Ext u u1 := fun hg => ⟨true, rfl, ⟨fun _ => hg, fun _ => rfl⟩, hu1⟩
    refine ⟨fun h3 => ⟨fun h5 => yes (key.2 ⟨hcmd.1 h5, .inl h3⟩), fun h5 => no hu1 fun g => hcmd'.1 h5 (key.1 g).1⟩, fun h3 => ⟨fun h5 => ⟨fun h6 => yes (key.2 ⟨hcmd.1 h5, .inr (.inl h6)⟩), fun h6 => ⟨fun h7 => ?_, fun h7 => no hu1 fun g => ?_⟩⟩, fun h5 => no hu1 fun g => hcmd'.1 h5 (key.1 g).1⟩⟩
    · refine ⟨!lg, rfl, ?_, hu1⟩
      rw [key]
      simp only [Bool.not_eq_true', h7, hcmd.1 h5, true_and, h3, h6, false_or]
    · rcases (key.1 g).2 with h | h | h
      · exact h3 h
      · exact h6 h
      · exact h7 h.1

theorem command_ok (pr : Pr) (pp : Option Addr) (pn pc : Nat) (c : Int) {u : World} (h : Own u 1 pp pn pc (numV pr.ps)) (hg : GoodP pr) (hat : pr.at_ = 2) (h0 : 0 ≤ c) (h1 : c ≤ 255) :
    Spec Tryd.prog fn_parse_command #[PrV pr pp pn pc, .int .i64 c] u (StepPost u pp (cmdP pr c)) := by
  apply vc_parse_command_spec
  unfold vc_parse_command
  have hl := h.len'
  have hpos : 0 < pr.ps.length := hg.cmd.1 hat
  have hlen := hg.len
  have hu : Ext u (allocW (allocW (allocW u hole) hole) hole) := (((Upd.refl u).alloc _).alloc _).alloc _
  have hud := hu.drew
  refine ⟨by simp only [inK]; omega, ?_⟩
  by_cases hd : 48 ≤ c ∧ c ≤ 57
  · have e := h.ext hud
    have hlast : okNum (pr.ps.getD (pr.ps.length - 1) 0) := hg.nums _ (mem_getD 0 (by omega))
    obtain ⟨hl0, hl1⟩ := hlast
    have hi : (((pn : Nat) : Int) - 1).toNat = pr.ps.length - 1 := by omega
    simp only [hd.1, hd.2, decide_true, true_implies, Bool.true_eq_false, false_implies, and_true]
    obtain ⟨b, o, hp, hr⟩ := e.nums.at (i := (((pn : Nat) : Int) - 1).toNat) (by omega)
    have ho : o = 0 := by
      rcases h with ⟨h, _⟩ | ⟨_, _, _, h, _⟩
      · rw [h] at hp; cases hp
      · rw [h] at hp; cases hp; rfl
    subst ho
    subst hp
    refine ⟨b, 0, rfl, by omega, by omega, _, rfl, hr, by simp only [inK, hi]; omega, by simp only [inK, hi]; omega, by simp only [inK, hi]; omega, b, 0, rfl, by omega, by omega, rfl, ?_, ?_⟩
    · have := e.wrs (o := (((pn : Nat) : Int) - 1).toNat * 1) (m := 1) (by have := h.le; omega)
      exact this.2
    · have hcmd : cmdP pr c = ({ pr with ps := lastNum pr.ps c }, .none) := by simp only [cmdP]; rw [if_pos hd]
      rw [hcmd]
      have hps : numV pr.ps = numV (pr.ps.take (pr.ps.length - 1)) ++ [.int .i64 (pr.ps.getD (pr.ps.length - 1) 0)] ++ [] := by
        rw [List.append_nil]
        unfold numV
        apply List.ext_getElem
        · simp; omega
        · intro i h1 h2
          simp only [List.length_map] at h1
          by_cases hi : i = pr.ps.length - 1
          · subst hi
            simp [List.getD_eq_getElem?_getD, List.getElem?_eq_getElem h1]
          · rw [List.getElem_append_left (by simp; omega)]
            simp
      have e2 := e
      rw [hps] at e2
      have e3 := e2.put (ys := [.int .i64 (min (((10 * (pr.ps.getD (((pn : Nat) : Int) - 1).toNat 0)) + c) - 48) 999)]) (o := 0 + (((pn : Nat) : Int) - 1).toNat * 1) rfl (by rw [numV_len]; simp; omega)
      refine StepPost.plain (p := { pr with ps := lastNum pr.ps c }) rfl ?_ ?_ fun k hk => .inl hk
      · show Own _ 1 _ pn pc (numV (lastNum pr.ps c))
        rw [lastNum_take _ _ hpos]
        rw [hi] at e3 ⊢
        exact e3
      · exact (hud.any).put (fun _ => ⟨_, rfl, rfl⟩) _ _
  · have hn : ¬ (48 ≤ c ∧ c ≤ 57) := hd
    have zero : ∀ {u1 : World}, Ext u u1 → ∀ ev : Ev, ev.ps = [] → StepPost u pp (Pr.zero, ev) (.returned (.tuple #[.agg #[.int .i64 0, .slice none 0 0, .string (ByteArray.mk #[]), .bool false], EvV ev none 0 0])) u1 := fun hu1 ev he => StepPost.plain he (Own.nil _ _) hu1.any fun _ h => (at_none h).elim
    have rest : ¬ (c = 59 ∧ pr.ps.length < 4) → cmdP pr c = if 64 ≤ c ∧ c < 127 then (.zero, ⟨3, c, pr.ps, noBytes⟩) else if c = 27 then ({ Pr.zero with at_ := 1 }, .none) else (.zero, .none) := fun h => by
      simp only [cmdP]; rw [if_neg hn, if_neg h]
    have semi : c = 59 → pr.ps.length < 4 → cmdP pr c = ({ pr with ps := pr.ps ++ [0] }, .none) := fun h1 h2 => by
      simp only [cmdP]; rw [if_neg hn, if_pos ⟨h1, h2⟩]
    have csi : Ext u (drewW (allocW (allocW (allocW u hole) hole) hole)) → ¬ (c = 59 ∧ pr.ps.length < 4) → 64 ≤ c → c < 127 → StepPost u pp (cmdP pr c) (.returned (.tuple #[.agg #[.int .i64 0, .slice none 0 0, .string (ByteArray.mk #[]), .bool false], .agg #[.int .i64 3, .int .i64 c, .slice pp pn pc, .string (ByteArray.mk #[])]])) (drewW (allocW (allocW (allocW u hole) hole) hole)) := fun hu1 hr h6 h7 => by
      rw [rest hr, if_pos ⟨h6, h7⟩]
      exact ⟨none, 0, 0, pp, pn, pc, rfl, Own.nil _ _, (h.ext hu1).nums, hu1.any, fun _ h => (at_none h).elim, fun k hk => ⟨hk, at_none⟩⟩
    have esc : ∀ {u1 : World}, Ext u u1 → ¬ (c = 59 ∧ pr.ps.length < 4) → c = 27 → StepPost u pp (cmdP pr c) (.returned (.tuple #[.agg #[.int .i64 1, .slice none 0 0, .string (ByteArray.mk #[]), .bool false], .agg #[.int .i64 0, .int .i64 0, .slice none 0 0, .string (ByteArray.mk #[])]])) u1 := fun hu1 hr h27 => by
      rw [rest hr, if_neg (by omega), if_pos h27]
      exact StepPost.plain (p := { Pr.zero with at_ := 1 }) rfl (Own.nil _ _) hu1.any fun _ h => (at_none h).elim
    have oth : ∀ {u1 : World}, Ext u u1 → ¬ (c = 59 ∧ pr.ps.length < 4) → ¬ (64 ≤ c ∧ c < 127) → ¬ c = 27 → StepPost u pp (cmdP pr c) (.returned (.tuple #[.agg #[.int .i64 0, .slice none 0 0, .string (ByteArray.mk #[]), .bool false], .agg #[.int .i64 0, .int .i64 0, .slice none 0 0, .string (ByteArray.mk #[])]])) u1 := fun hu1 hr h64 h27 => by
      rw [rest hr, if_neg h64, if_neg h27]
      exact zero hu1 .none rfl
    have app : c = 59 → pr.ps.length < 4 → ∃ old new : List Value, old.length = pn * 1 ∧ Gets (allocW (allocW (allocW (allocW u hole) hole) hole) (.cells #[.int .i64 0] ty_int)) pp old ∧
        new.length = 1 * 1 ∧ Gets (allocW (allocW (allocW (allocW u hole) hole) hole) (.cells #[.int .i64 0] ty_int)) (some (Addr.mk (allocW (allocW (allocW u hole) hole) hole).heap.size 0 none)) new ∧
        0 < 8 ∧ (2 * (pn + 1) + 192) * 8 ≤ 140737488355328 ∧ okCells new True ∧
        (pn + 1 ≤ pc → WrS (allocW (allocW (allocW (allocW u hole) hole) hole) (.cells #[.int .i64 0] ty_int)) pp (pn * 1) (1 * 1)) ∧
        ∀ p cap u1, AppR (allocW (allocW (allocW (allocW u hole) hole) hole) (.cells #[.int .i64 0] ty_int)) 3 1 [.int .i64 0] pp pn pc 1 old new p cap u1 →
        StepPost u pp (cmdP pr c) (.returned (.tuple #[.agg #[.int .i64 pr.at_, .slice p (pn + 1) cap, .string pr.pl, .bool pr.long], .agg #[.int .i64 0, .int .i64 0, .slice none 0 0, .string (ByteArray.mk #[])]])) u1 := fun h59 h4 => by
      have hu2 : Ext u (allocW (allocW (allocW (allocW u hole) hole) hole) (.cells #[.int .i64 0] ty_int)) := hu.alloc _
      have e := h.ext hu2
      have ef : Own (allocW (allocW (allocW (allocW u hole) hole) hole) (.cells #[.int .i64 0] ty_int)) 1 _ 1 1 [.int .i64 0] := Own.fresh (allocW (allocW (allocW u hole) hole) hole) (cs := [.int .i64 0]) rfl
      refine ⟨numV pr.ps, numV [0], e.len, e.gets, rfl, ef.gets, by decide, by omega, numV_ok _, fun hc => e.wrs (by omega), fun p cap u1 hr => ?_⟩
      obtain ⟨h1, h2, h3⟩ := e.app hr e.len e.gets rfl rfl
      rw [semi h59 h4]
      refine StepPost.plain (p := { pr with ps := pr.ps ++ [0] }) rfl ?_ (hu2.any.trans h2 fun _ _ h => h) fun k hk => ?_
      · show Own _ _ _ _ _ (numV (pr.ps ++ [0]))
        unfold numV at h1 ⊢
        rw [List.map_append]
        exact h1
      · rcases h3 with ⟨rfl, _⟩ | ⟨rfl, _⟩
        · exact .inl hk
        · right
          rw [at_some hk]
          simp only [size_alloc]
          omega
    simp only [decide_eq_true_eq, decide_eq_false_iff_not]
    repeat' (refine And.intro (fun _ => ?_) (fun _ => ?_))
    all_goals first
      | (exfalso; omega)
      | exact app (by omega) (by omega)
      | exact csi hud (by omega) (by omega) (by omega)
      | exact esc hu (by omega) (by omega)
      | exact oth hu (by omega) (by omega) (by omega)

end Go.Proofs.YtkmmphkjmamckabDoor
