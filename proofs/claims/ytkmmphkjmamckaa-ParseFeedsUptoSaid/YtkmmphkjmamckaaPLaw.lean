/-
  The law that feeding does as the document says: what its function answers.
-/
import Derived.Test.YtkmmphkjmamckaaPWalk4
import Derived.Test.YtkmmphkjmamckaaPFeed
import Derived.Test.YtkmmphkjmamckaaTold
import Derived.Test.YtkmmphkjmamckaaVLawP
namespace Go.Proofs.Ytkmmphkjmamckaa
open Go
set_option linter.all false

theorem reads_ok {u : World} : Spec Try.prog fn_fenestralaw_reads #[] u fun e u' => e = .returned (.bool true) ∧ Ext u u' := by
  apply vc_fenestralaw_reads_spec
  unfold vc_fenestralaw_reads
  refine (feed_ok .zero none 0 0 (ByteArray.mk #[97, 27, 91, 51, 59, 52, 72, 27]) (u := u) ⟨rfl, rfl⟩ (by decide)).mono fun e u1 h => ?_
  rcases h with ⟨_, h⟩ | ⟨h, _⟩
  · obtain ⟨q, n, c, lp, ln, lc, he, hn, hl, hu⟩ := h
    have hr : feedP .zero (ByteArray.mk #[97, 27, 91, 51, 59, 52, 72, 27]).data.toList = (⟨1, [], noBytes, false⟩, [⟨1, 97, [], noBytes⟩, ⟨3, 72, [3, 4], noBytes⟩]) := by rfl
    rw [hr] at he hn hl
    have hu' : Ext u (allocW u1 hole) := hu.alloc _
    have hl' := hl.ext ((Upd.refl u1).alloc hole)
    have hlen := hl'.len
    simp only [List.length_cons, List.length_nil] at hlen
    obtain ⟨b, o, q2, m, c2, hp, hrd, hq⟩ := hl'.at (i := 1) (by omega)
    have hm : m = 2 := hq.2.symm
    subst hp hm hlen
    exact ⟨_, _, _, _, _, _, _, _, _, _, he, by
      refine ⟨fun _ => ⟨fun _ => ⟨fun _ => ⟨b, o, rfl, by decide, by decide, _, rfl, ⟨hrd.1, trivial⟩, fun _ => ⟨b, o, rfl, by decide, by decide, _, rfl, ⟨hrd.2.1, trivial⟩, fun _ => ⟨b, o, rfl, by decide, by decide, _, _, _, rfl, ⟨hrd.2.2.1, trivial⟩, rfl, hu'⟩, fun h => by simp at h⟩, fun h => by simp at h⟩, fun h => by simp at h⟩, fun h => by simp at h⟩, fun h => by simp at h⟩⟩
  · exact (h GoodP.zero).elim

theorem parseFeeds_ok (pr : Pr) (pp : Option Addr) (pn pc : Nat) (s : ByteArray) {u : World} (h : Nums u pp pn pr.ps) (hs : s.size ≤ 4194304) (hpn : pn ≤ 100000000) :
    Spec Try.prog fn_fenestralaw_ParseFeeds #[PrV pr pp pn pc, .string s] u fun e u' => e = .returned (.bool true) ∧ Ext u u' := by
  apply vc_fenestralaw_ParseFeeds_spec
  unfold vc_fenestralaw_ParseFeeds
  have hu0 : Ext u (allocW u hole) := (Upd.refl u).alloc _
  refine (copyParser_ok pr pp pn pc (h.ext hu0) hpn).mono fun e u1 ⟨q, c, he, ho, hu1, hq⟩ => ⟨_, _, _, _, _, _, he, ?_⟩
  have x1 := hu0.ext hu1
  have hn1 := ho.nums
  have hu1' : Ext u1 (allocW u1 hole) := (Upd.refl u1).alloc _
  refine (feed_ok pr q pn c s (hn1.ext hu1') hs).mono fun e u2 hF => ?_
  have last : ∀ {v : World}, Ext u1 v → Spec Try.prog fn_parse_Good #[PrV pr q pn c] v fun e u15 => ∃ x43 : Bool, e = .returned (.bool x43) ∧ Spec Try.prog fn_fenestraref_GoodParser #[PrV pr pp pn pc] u15 fun e u16 => ∃ x45 : Bool, e = .returned (.bool x45) ∧
      (((x43 == x45) = true → Spec Try.prog fn_fenestraref_SameParser #[PrV pr q pn c, PrV pr pp pn pc] u16 fun e u17 => ∃ x51 : Bool, e = .returned (.bool x51) ∧ ((x51 = true → Spec Try.prog fn_fenestralaw_reads #[] u17 fun e u18 => ∃ x54 : Bool, e = .returned (.bool x54) ∧ (.returned (.bool x54) = Ending.returned (.bool true) ∧ Ext u u18)) ∧ (x51 = false → (Ending.returned (.bool false) = .returned (.bool true) ∧ Ext u u17)))) ∧
       ((x43 == x45) = false → (Ending.returned (.bool false) = .returned (.bool true) ∧ Ext u u16))) := fun {v} hv => by
    refine (good_ok pr q pn c (hn1.ext hv)).mono fun e v1 ⟨g, he, hg, hv1⟩ => ⟨g, he, ?_⟩
    have y1 := hv.ext hv1
    refine (goodParser_ok pr pp pn pc (h.ext (x1.ext y1)) hpn).mono fun e v2 ⟨g2, he, hg2, hv2⟩ => ⟨g2, he, ?_⟩
    have y2 := y1.ext hv2
    have hgg : g = g2 := by
      rw [Bool.eq_iff_iff, hg, hg2]
    subst hgg
    refine ⟨fun _ => ?_, fun h => by simp at h⟩
    refine (sameParser_ok pr pr q pn c pp pn pc (hn1.ext y2) (h.ext (x1.ext y2)) hpn).mono fun e v3 ⟨g3, he, hg3, hv3⟩ => ⟨g3, he, ?_⟩
    have : g3 = true := hg3.2 rfl
    subst this
    refine ⟨fun _ => ?_, fun h => by cases h⟩
    exact reads_ok.mono fun e v4 ⟨he, hv4⟩ => ⟨true, he, rfl, (x1.ext (y2.ext hv3)).ext hv4⟩
  rcases hF with ⟨hg, q1, n1, c1, lp, ln, lc, he, hn2, hl, hu2⟩ | ⟨hg, he, hu2⟩
  · refine ⟨_, _, _, _, _, _, _, _, _, _, he, ?_⟩
    have x2 := hu1'.ext hu2
    have hv2 : Ext u2 (allocW u2 hole) := (Upd.refl u2).alloc _
    refine (feedBytes_ok pr pp pn pc s (h.ext (x1.ext (x2.ext hv2))) hs hpn).mono fun e u3 hB => ?_
    rcases hB with ⟨_, q2, n2, c2, lp2, ln2, lc2, he, hn3, hl2, hu3⟩ | ⟨hg', _⟩
    · refine ⟨_, _, _, _, _, _, _, _, _, _, he, ?_⟩
      have hv3 : Ext u3 (drewW (allocW u3 hole)) := ((Upd.refl u3).alloc _).drew
      have z3 := (hv2.ext hu3).ext hv3
      have hgood := feed_good s.data.toList hg
      have hfl : ∀ (l : List UInt8) (p : Pr), GoodP p → ∀ e ∈ (feedP p l).2, e.ps.length ≤ 4 := feed_few
      have hln : (feedP pr s.data.toList).2.length ≤ s.data.toList.length := feed_len _ _
      have hll := hl.len
      have hn2l := hn2.2
      have hgl := hgood.len
      rw [bytes_len] at hln
      refine (sameParser_ok _ _ q1 n1 c1 q2 n2 c2 (hn2.ext z3) (hn3.ext hv3) (by omega)).mono fun e u4 ⟨g, he, hg4, hu4⟩ => ⟨g, he, ?_⟩
      have : g = true := hg4.2 rfl
      subst this
      refine ⟨fun _ => ?_, fun h => by cases h⟩
      refine (sameEvents_ok lp ln lc lp2 ln2 lc2 (hl.ext (z3.ext hu4)) (hl2.ext (hv3.ext hu4)) (by omega) (fun e he => by have := hfl _ _ hg e he; omega)).mono fun e u5 ⟨g, he, hg5, hu5⟩ => ⟨g, he, ?_⟩
      have : g = true := hg5.2 rfl
      subst this
      exact ⟨fun _ => ⟨fun _ => last (x2.ext ((z3.ext hu4).ext hu5)), fun h => by simp at h⟩, fun h => by cases h⟩
    · exact (hg' hg).elim
  · refine ⟨_, _, _, _, _, _, _, _, _, _, he, ?_⟩
    have x2 := hu1'.ext hu2
    have hv2 : Ext u2 (allocW u2 hole) := (Upd.refl u2).alloc _
    refine (feedBytes_ok pr pp pn pc s (h.ext (x1.ext (x2.ext hv2))) hs hpn).mono fun e u3 hB => ?_
    rcases hB with ⟨hg', _⟩ | ⟨_, he, hu3⟩
    · exact (hg hg').elim
    · refine ⟨_, _, _, _, _, _, _, _, _, _, he, ?_⟩
      have hv3 : Ext u3 (drewW (allocW u3 hole)) := ((Upd.refl u3).alloc _).drew
      have z3 := (hv2.ext hu3).ext hv3
      refine (sameParser_ok pr pr q pn c pp pn pc (hn1.ext (x2.ext z3)) (h.ext (x1.ext (x2.ext z3))) hpn).mono fun e u4 ⟨g, he, hg4, hu4⟩ => ⟨g, he, ?_⟩
      have : g = true := hg4.2 rfl
      subst this
      refine ⟨fun _ => ?_, fun h => by cases h⟩
      have hnil : ∀ w : World, EvL w (fun _ => True) none 0 [] := fun w => ⟨[], ⟨rfl, rfl, by simp⟩, trivial⟩
      refine (sameEvents_ok none 0 0 none 0 0 (hnil _) (hnil _) (by omega) (by simp)).mono fun e u5 ⟨g, he, hg5, hu5⟩ => ⟨g, he, ?_⟩
      have : g = true := hg5.2 rfl
      subst this
      exact ⟨fun _ => ⟨fun _ => last (x2.ext ((z3.ext hu4).ext hu5)), fun h => by simp at h⟩, fun h => by cases h⟩

theorem parseFeeds_told (pr : Pr) (pp : Option Addr) (pn pc : Nat) (s : ByteArray) {u : World} (h : Nums u pp pn pr.ps) (hs : s.size ≤ 4194304) (hpn : pn ≤ 100000000) :
    Spec Try.prog fn_fenestralaw_ParseFeeds #[PrV pr pp pn pc, .string s] u (Told u true) := (parseFeeds_ok pr pp pn pc s h hs hpn).mono fun _ _ h => ⟨h.1, h.2⟩

end Go.Proofs.Ytkmmphkjmamckaa
