/-
  What the keeping statements of the parser answer: true.
-/
import Derived.Test.YtkmmphkjmamckaaPWalk2
import Derived.Test.YtkmmphkjmamckaaPSameK
import Derived.Test.YtkmmphkjmamckaaVLawK
import Derived.Test.YtkmmphkjmamckaaPFeed
import Derived.Test.YtkmmphkjmamckaaTold
namespace Go.Proofs.Ytkmmphkjmamckaa
open Go
set_option linter.all false

theorem reads_ok_k {u : World} : Spec Try.prog fn_fenestrakeep_reads #[] u (Told u true) := by
  apply vc_fenestrakeep_reads_spec
  unfold vc_fenestrakeep_reads
  refine (feed_ok .zero none 0 0 (ByteArray.mk #[97, 27, 91, 51, 59, 52, 72, 27]) (u := u) ⟨rfl, rfl⟩ (by decide)).mono fun e u1 h => ?_
  rcases h with ⟨_, h⟩ | ⟨h, _⟩
  · obtain ⟨q, n, c, lp, ln, lc, he, hn, hl, hu⟩ := h
    have hr : feedP .zero (ByteArray.mk #[97, 27, 91, 51, 59, 52, 72, 27]).data.toList = (⟨1, [], noBytes, false⟩, [⟨1, 97, [], noBytes⟩, ⟨3, 72, [3, 4], noBytes⟩]) := by rfl
    rw [hr] at he hn hl
    have hu' : Ext u (allocW u1 hole) := hu.alloc _
    have hl' := hl.ext ((Upd.refl u1).alloc hole)
    have hlen := hl'.len
    simp only [List.length_cons, List.length_nil] at hlen
    obtain ⟨b, o, q2, m, c2, hp, hrd, hq⟩ := hl'.at (i := 1) (by omega)
    have hm : m = 2 := hq.2.symm
    subst hp hm hlen
    exact ⟨_, _, _, _, _, _, _, _, _, _, he, by
      refine ⟨fun _ => ⟨fun _ => ⟨fun _ => ⟨b, o, rfl, by decide, by decide, _, rfl, ⟨hrd.1, trivial⟩, fun _ => ⟨b, o, rfl, by decide, by decide, _, rfl, ⟨hrd.2.1, trivial⟩, fun _ => ⟨b, o, rfl, by decide, by decide, _, _, _, rfl, ⟨hrd.2.2.1, trivial⟩, rfl, hu'⟩, fun h => by simp at h⟩, fun h => by simp at h⟩, fun h => by simp at h⟩, fun h => by simp at h⟩, fun h => by simp at h⟩⟩
  · exact (h GoodP.zero).elim

theorem parseParts_ok (pr : Pr) (pp : Option Addr) (pn pc : Nat) (a b : ByteArray) {u : World} (h : Nums u pp pn pr.ps) (ha : a.size ≤ 1048576) (hb : b.size ≤ 1048576) :
    Spec Try.prog fn_fenestrakeep_ParseParts #[PrV pr pp pn pc, .string a, .string b] u (Told u true) := by
  apply vc_fenestrakeep_ParseParts_spec
  unfold vc_fenestrakeep_ParseParts
  have hu0 : Ext u (allocW u hole) := (Upd.refl u).alloc _
  have hab : (a ++ b).size = a.size + b.size := ByteArray.size_append
  have habl : (a ++ b).data.toList = a.data.toList ++ b.data.toList := by simp [ByteArray.data_append]
  refine (feed_ok pr pp pn pc a (h.ext hu0) (by omega)).mono fun e u1 hF => ?_
  rcases hF with ⟨hg, q1, n1, c1, lp, ln, lc, he, hn1, hl1, hu1⟩ | ⟨hg, he, hu1⟩
  · refine ⟨_, _, _, _, _, _, _, _, _, _, he, ?_⟩
    have x1 := hu0.ext hu1
    have hv1 : Ext u1 (allocW u1 hole) := (Upd.refl u1).alloc _
    have hg1 := feed_good a.data.toList hg
    refine (feed_ok _ q1 n1 c1 b (hn1.ext hv1) (by omega)).mono fun e u2 hF => ?_
    rcases hF with ⟨_, q2, n2, c2, mp, mn, mc, he, hn2, hl2, hu2⟩ | ⟨hbad, _⟩
    · refine ⟨_, _, _, _, _, _, _, _, _, _, he, by omega, ?_⟩
      have x2 := (x1.ext hv1).ext hu2
      have hv2 : Ext u2 (allocW u2 hole) := (Upd.refl u2).alloc _
      refine (feed_ok pr pp pn pc (a ++ b) (h.ext (x2.ext hv2)) (by omega)).mono fun e u3 hF => ?_
      rcases hF with ⟨_, q3, n3, c3, kp, kn, kc, he, hn3, hl3, hu3⟩ | ⟨hbad, _⟩
      · refine ⟨_, _, _, _, _, _, _, _, _, _, he, fun h => by simp at h, fun _ => ?_⟩
        have hv3 : Ext u3 (allocW u3 hole) := (Upd.refl u3).alloc _
        have x3 := ((x2.ext hv2).ext hu3).ext hv3
        have y1 : Ext u1 (allocW u3 hole) := (((hv1.ext hu2).ext hv2).ext hu3).ext hv3
        have y2 : Ext u2 (allocW u3 hole) := (hv2.ext hu3).ext hv3
        rw [habl, feed_append'] at hn3 hl3
        have hg2 := feed_good b.data.toList hg1
        have hpe : (feedP pr (a ++ b).data.toList).1 = (feedP (feedP pr a.data.toList).1 b.data.toList).1 := by rw [habl, feed_append']
        have hfew := fun e (he : e ∈ (feedP pr a.data.toList).2) => feed_few _ _ hg e he
        have hfew2 := fun e (he : e ∈ (feedP (feedP pr a.data.toList).1 b.data.toList).2) => feed_few _ _ hg1 e he
        have hlen1 := feed_len a.data.toList pr
        have hlen2 := feed_len b.data.toList (feedP pr a.data.toList).1
        rw [bytes_len] at hlen1 hlen2
        have l1 := hl1.len
        have l2 := hl2.len
        refine reads_ok_k.mono fun e u4 ⟨he, hu4⟩ => ⟨_, he, fun h => by simp at h, fun _ => ⟨fun _ => ⟨fun _ => ?_, fun h => by simp at h⟩, fun h => by simp at h⟩⟩
        have z1 := y1.ext hu4
        have z2 := y2.ext hu4
        have z3 := hv3.ext hu4
        rw [hpe]
        have hnn := hn2.2
        have hgl := hg2.len
        refine (sameParser_ok_k _ _ q2 n2 c2 q3 n3 c3 (hn2.ext z2) (hn3.ext z3) (by omega)).mono fun e u5 ⟨g, he, hg5, hu5⟩ => ⟨g, he, fun hgt => ?_, fun hgf => ?_⟩
        · obtain ⟨xs, hA, hE⟩ := hl1
          obtain ⟨ys, hA2, hE2⟩ := hl2
          have hA' := hA.ext (z1.ext hu5)
          refine ⟨[], xs.flatten, rfl, rfl, hA'.flat, hA'.gets, by decide, by omega, hE.okc, fun _ => trivial, fun p cap u6 hr => ?_⟩
          obtain ⟨o1, e1, w3⟩ := AppR.none hr rfl hA'.flat rfl
          have hA2' := hA2.ext ((z2.ext hu5).ext e1)
          refine ⟨xs.flatten, ys.flatten, o1.len, o1.gets, hA2'.flat, hA2'.gets, by decide, by omega, hE2.okc, fun hc => o1.wrs (by omega), fun p1 cap1 u7 hr2 => ?_⟩
          obtain ⟨o2, e2, e3⟩ := o1.app hr2 o1.len o1.gets hA2'.flat rfl
          have hfr : ∀ k, At p k → u5.heap.size ≤ k := by
            intro k hk
            rcases w3 with ⟨_, rfl⟩ | rfl
            · exact (at_none hk).elim
            · rw [at_some hk]; exact Nat.le_refl _
          have e57 : Ext u5 u7 := (e1.trans e2 fun k hk hp => by have := hfr k hp; omega).mono fun _ _ h => h
          have hEv : Evs u7 (fun _ => True) (xs ++ ys) ((feedP pr a.data.toList).2 ++ (feedP (feedP pr a.data.toList).1 b.data.toList).2) := (hE2.ext ((z2.ext hu5).ext e57)).append (hE.ext ((z1.ext hu5).ext e57))
          have hL : EvL u7 (fun _ => True) p1 (0 + ln + mn) ((feedP pr a.data.toList).2 ++ (feedP (feedP pr a.data.toList).1 b.data.toList).2) := ⟨xs ++ ys, ⟨by rw [List.flatten_append]; exact o2.gets, by have := hA.len; have := hA2.len; simp only [List.length_append]; omega, hEv.each⟩, hEv⟩
          refine (sameEvents_ok_k p1 _ cap1 kp kn kc hL (hl3.ext ((z3.ext hu5).ext e57)) (by omega) (fun e he => ?_)).mono fun e u8 ⟨g8, he, hg8, hu8⟩ => ⟨g8, he, fun _ => ?_, fun hf => ?_⟩
          · rcases List.mem_append.1 he with he | he
            · have := hfew e he; omega
            · have := hfew2 e he; omega
          · have z8 := (z3.ext hu5).ext (e57.ext hu8)
            refine (good_ok _ q3 n3 c3 (hn3.ext z8)).mono fun e u9 ⟨g9, he, hg9, hu9⟩ => ⟨g9, he, ?_⟩
            have : g9 = true := hg9.2 hg2
            subst this
            exact ⟨rfl, (x3.ext hu4).ext (hu5.ext ((e57.ext hu8).ext hu9))⟩
          · have : g8 = true := hg8.2 rfl
            rw [this] at hf; cases hf
        · have : g = true := hg5.2 rfl
          rw [this] at hgf; cases hgf
      · exact (hbad hg).elim
    · exact (hbad hg1).elim
  · refine ⟨_, _, _, _, _, _, _, _, _, _, he, ?_⟩
    have x1 := hu0.ext hu1
    have hv1 : Ext u1 (allocW u1 hole) := (Upd.refl u1).alloc _
    refine (feed_ok pr pp pn pc b (h.ext (x1.ext hv1)) (by omega)).mono fun e u2 hF => ?_
    rcases hF with ⟨hbad, _⟩ | ⟨_, he, hu2⟩
    · exact (hg hbad).elim
    refine ⟨_, _, _, _, _, _, _, _, _, _, he, by omega, ?_⟩
    have x2 := (x1.ext hv1).ext hu2
    have hv2 : Ext u2 (allocW u2 hole) := (Upd.refl u2).alloc _
    refine (feed_ok pr pp pn pc (a ++ b) (h.ext (x2.ext hv2)) (by omega)).mono fun e u3 hF => ?_
    rcases hF with ⟨hbad, _⟩ | ⟨_, he, hu3⟩
    · exact (hg hbad).elim
    refine ⟨_, _, _, _, _, _, _, _, _, _, he, fun _ => ⟨fun _ => ⟨fun _ => ?_, fun h => by simp at h⟩, fun h => by simp at h⟩, fun h => by simp at h⟩
    exact reads_ok_k.mono fun e u4 ⟨he, hu4⟩ => ⟨_, he, rfl, (((x2.ext hv2).ext hu3).alloc _).ext hu4⟩

theorem parsePlain_ok (s : ByteArray) {u : World} (hs : s.size ≤ 1048576) : Spec Try.prog fn_fenestrakeep_ParsePlain #[.string s] u (Told u true) := by
  apply vc_fenestrakeep_ParsePlain_spec
  unfold vc_fenestrakeep_ParsePlain
  simp only [decide_eq_true_eq, decide_eq_false_iff_not, Bool.not_eq_true', Bool.not_eq_false', true_and]
  have hsz := bytes_len s
  refine (feed_ok .zero none 0 0 s (u := u) ⟨rfl, rfl⟩ (by omega)).mono fun e u1 hF => ?_
  rcases hF with ⟨_, q1, n1, c1, lp, ln, lc, he, hn1, hl1, hu1⟩ | ⟨hbad, _⟩
  rotate_left
  · exact (hbad GoodP.zero).elim
  have hh : Ext u1 (allocW u1 hole) := (Upd.refl _).alloc _
  have hrd : ∀ {v : World}, Ext u v → Spec Try.prog fn_fenestrakeep_reads #[] v fun e u11 => ∃ x30 : Bool, e = .returned (.bool x30) ∧ Told u true (.returned (.bool x30)) u11 := fun hv => reads_ok_k.mono fun r u3 ⟨hr, hu3⟩ => ⟨_, hr, rfl, hv.ext hu3⟩
  refine ⟨_, _, _, _, _, _, _, _, _, _, he, fun x v => Ext u v ∧ Ext u1 v ∧ 0 ≤ x ∧ x ≤ s.size ∧ ∀ i : Nat, i < x.toNat → ∀ b, s.data.toList[i]? = some b → 32 ≤ b.toNat ∧ b.toNat ≤ 126, fun x _ => (s.size - x).toNat, ⟨hu1.ext hh, hh, Int.le_refl _, by omega, fun i hi => by omega⟩, fun x v ⟨hv, hv1, h0, h1, hi⟩ => ⟨fun hx => ?_, fun hx => ?_⟩⟩
  · have hb : s.data.toList[x.toNat]? = some (s.data.toList[x.toNat]'(by omega)) := List.getElem?_eq_getElem _
    generalize s.data.toList[x.toNat]'(by omega) = ch at hb
    refine ⟨h0, ch, hb, fun _ => hrd hv, fun hlo => ⟨h0, ch, hb, fun _ => hrd hv, fun hhi => ⟨by simp only [inK]; omega, ⟨hv, hv1, by omega, by omega, fun i hi' b hb' => ?_⟩, by first | omega | (dsimp only; omega)⟩⟩⟩
    rcases (by omega : i < x.toNat ∨ i = x.toNat) with h | rfl
    · exact hi i h b hb'
    · rw [hb] at hb'
      cases hb'
      omega
  · have hall : ∀ b ∈ s.data.toList, 32 ≤ b.toNat ∧ b.toNat ≤ 126 := fun b hb => by
      obtain ⟨i, hi', rfl⟩ := List.getElem_of_mem hb
      exact hi i (by omega) _ (List.getElem?_eq_getElem hi')
    rw [plain_feed _ hall] at hn1 hl1 ⊢
    dsimp only at hn1 hl1 ⊢
    refine ⟨fun h => (h rfl).elim, fun _ => ?_⟩
    have hll := hl1.len
    rw [List.length_map, hsz] at hll
    refine (sameParser_ok_k .zero .zero q1 n1 c1 none 0 0 (hn1.ext hv1) ⟨rfl, rfl⟩ (by have := hn1.2; simp [Pr.zero] at this; omega)).mono fun e u2 ⟨g, he, hg, hu2⟩ => ⟨g, he, fun hf => ?_, fun _ => ⟨fun hne => ?_, fun _ => ?_⟩⟩
    · rw [hg.2 rfl] at hf; cases hf
    · omega
    refine reads_ok_k.mono fun r u3 ⟨hr, hu3⟩ => ⟨_, hr, fun hf => (by cases hf), fun _ => ?_⟩
    have y3 := (hv.ext hu2).ext hu3
    have y31 := (hv1.ext hu2).ext hu3
    refine ⟨fun x w => Ext u3 w ∧ 0 ≤ x, fun x _ => (ln - x).toNat, ⟨Upd.refl _, Int.le_refl _⟩, fun x w ⟨hw, h0'⟩ => ⟨fun hlt => ?_, fun _ => ⟨rfl, y3.ext hw⟩⟩⟩
    have hd : Ext u3 (drewW w) := hw.drew
    obtain ⟨b, o, q2, m, c2, hp, hrd', hq⟩ := (hl1.ext (y31.ext hd)).at (i := x.toNat) (by omega)
    have hb : s.data.toList[x.toNat]? = some (s.data.toList[x.toNat]'(by omega)) := List.getElem?_eq_getElem _
    have hev : (s.data.toList.map fun b => (⟨1, (b.toNat : Nat), [], noBytes⟩ : Ev)).getD x.toNat .none = ⟨1, ((s.data.toList[x.toNat]'(by omega)).toNat : Nat), [], noBytes⟩ := by
      rw [List.getD_eq_getElem?_getD, List.getElem?_map, hb]
      rfl
    rw [hev] at hrd'
    generalize s.data.toList[x.toNat]'(by omega) = ch at hb hrd'
    have hch := ch.toNat_lt
    exact ⟨b, o, hp, h0', hlt, _, rfl, ⟨hrd'.1, trivial⟩, fun h => (h rfl).elim, fun _ => ⟨b, o, hp, h0', hlt, _, rfl, ⟨hrd'.2.1, trivial⟩, h0', ch, hb, by simp only [inK]; omega, fun h => (h rfl).elim, fun _ => ⟨by simp only [inK]; omega, ⟨hd, by omega⟩, by first | omega | (dsimp only; omega)⟩⟩⟩

theorem parseStops_ok (pr : Pr) (pp : Option Addr) (pn pc : Nat) (s : ByteArray) {u : World} (h : Nums u pp pn pr.ps) (hs : s.size ≤ 1048576) :
    Spec Try.prog fn_fenestrakeep_ParseStops #[PrV pr pp pn pc, .string s] u (Told u true) := by
  apply vc_fenestrakeep_ParseStops_spec
  unfold vc_fenestrakeep_ParseStops
  have hu0 : Ext u (allocW u hole) := (Upd.refl u).alloc _
  have hrd : ∀ {v : World}, Ext u v → Spec Try.prog fn_fenestrakeep_reads #[] v fun e u11 => ∃ x30 : Bool, e = .returned (.bool x30) ∧ Told u true (.returned (.bool x30)) u11 := fun hv => reads_ok_k.mono fun r u3 ⟨hr, hu3⟩ => ⟨_, hr, rfl, hv.ext hu3⟩
  refine (feed_ok pr pp pn pc s (h.ext hu0) (by omega)).mono fun e u1 hF => ?_
  rcases hF with ⟨hg, q1, n1, c1, lp, ln, lc, he, hn1, hl1, hu1⟩ | ⟨hg, he, hu1⟩
  · have x1 := hu0.ext hu1
    have hv1 : Ext u1 (allocW u1 hole) := (Upd.refl u1).alloc _
    refine ⟨_, _, _, _, _, _, _, _, _, _, he, fun h => by simp at h, fun _ => reads_ok_k.mono fun r u2 ⟨hr, hu2⟩ => ⟨_, hr, fun h => by simp at h, fun _ => ?_⟩⟩
    have hg1 := feed_good s.data.toList hg
    refine (feed_ok _ q1 n1 c1 (ByteArray.mk #[24]) (hn1.ext (hv1.ext hu2)) (by decide)).mono fun e u3 hF => ?_
    rcases hF with ⟨_, q2, n2, c2, mp, mn, mc, he, hn2, hl2, hu3⟩ | ⟨hbad, _⟩
    · rw [show (ByteArray.mk #[24]).data.toList = [24] from rfl, stop_feed hg1] at he hn2 hl2
      have hv3 : Ext u3 (allocW u3 hole) := (Upd.refl u3).alloc _
      have hlen := hl2.len
      simp only [List.length_nil] at hlen
      refine ⟨_, _, _, _, _, _, _, _, _, _, he, fun _ => ⟨fun _ => ?_, fun h => by simp [← hlen] at h⟩, fun h => by simp at h⟩
      refine (sameParser_ok_k .zero .zero q2 n2 c2 none 0 0 (hn2.ext hv3) ⟨rfl, rfl⟩ (by have := hn2.2; simp [Pr.zero] at this; omega)).mono fun e u4 ⟨g, he, hg, hu4⟩ => ⟨g, he, ?_⟩
      have : g = true := hg.2 rfl
      subst this
      exact ⟨rfl, (((x1.ext hv1).ext hu2).ext hu3).ext (hv3.ext hu4)⟩
    · exact (hbad hg1).elim
  · exact ⟨_, _, _, _, _, _, _, _, _, _, he, fun _ => hrd ((hu0.ext hu1).alloc _), fun h => by simp at h⟩

end Go.Proofs.Ytkmmphkjmamckaa
