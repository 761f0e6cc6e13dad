/-
  A client comes, goes, takes what waits; what a client is told.
-/
import Derived.Test.YtkmmphkjmamckabDoorSKill
import Derived.Test.YtkmmphkjmamckabDoorZVd
namespace Go.Proofs.YtkmmphkjmamckabDoor
open Go
set_option linter.all false

theorem bstr_sz (s : Bs) : (bstr s).size = s.length := by simp [bstr, ByteArray.size]

theorem extract_bstr (q : Bs) (i j : Nat) : (bstr q).extract i j = bstr ((q.drop i).take (j - i)) := by
  apply bstr_of
  rw [ByteArray.data_extract, Array.toList_extract, bstr_list]

theorem SvC.ct {u : World} {ok : Nat → Prop} {s : Sv} {cs : List Value} (h : SvC u ok s cs) {i : Nat} (hi : i < 3) : ∃ y, CtAt u ok (clientOf s i) y ∧ takeN y 0 1 = some [.bool (clientOf s i).here] ∧ takeN y 10 1 = some [.string (bstr (clientOf s i).queue)] ∧ takeN y 11 1 = some [.bool (clientOf s i).lost] ∧
    takeN y 1 1 = some [.int .i64 (clientOf s i).shown.wide] ∧ takeN y 2 1 = some [.int .i64 (clientOf s i).shown.high] ∧ (∀ {j m z}, takeN y j m = some z → j + m ≤ 12 → takeN cs (82 + i * 12 + j) m = some z) := by
  obtain ⟨y, k1, k2⟩ := h.client i hi
  obtain ⟨⟨p, d, rfl, k3, k4⟩, k5⟩ := k2
  exact ⟨_, ⟨⟨p, d, rfl, k3, k4⟩, k5⟩, rfl, rfl, rfl, rfl, rfl, fun hz hjm => takeN_sub k1 hz hjm⟩

theorem srvVisit_ok {u : World} {sb : Nat} {B : Nat → Prop} {s : Sv} (h : SvM u sb B s) (I : InvS s) (a : Ac) (ha : a.kind = 6 ∨ a.kind = 7 ∨ a.kind = 9) (by_ : ByteArray) :
    Spec Tryd.prog fn_server_Server_visit #[.pointer (some ⟨sb, 0, none⟩), .agg #[.int .i64 a.kind, .int .i64 a.p, .int .i64 a.n, .int .i64 a.m, .string by_]] u (SvTo u sb B (visitS s a)) := by
  apply vc_server_Server_visit_spec
  unfold vc_server_Server_visit
  simp only [decide_eq_true_eq, decide_eq_false_iff_not, true_and, Bool.not_eq_true', Bool.not_eq_false']
  have hu : Ext u (allocW (allocW u hole) hole) := ((Upd.refl u).alloc _).alloc _
  have hd : Ext u (drewW (allocW (allocW u hole) hole)) := hu.drew
  have hd2 : Ext u (drewW (drewW (allocW (allocW u hole) hole))) := hd.drew
  have no : ∀ {v : World} {n : Int}, Ext u v → visitS s a = (s, .no n) → SvTo u sb B (visitS s a) (.returned (.agg #[.int .i64 n, .int .i64 0, .string (ByteArray.mk #[])])) v := fun hv he => by
    rw [he]
    exact ⟨rfl, h.ext hv, hv.any⟩
  refine ⟨fun h1 => no hu (by unfold visitS; rw [if_pos (.inl h1)]), fun h1 => ⟨fun h2 => no hu (by unfold visitS; rw [if_pos (.inr h2)]), fun h2 => ⟨by omega, by omega, ?_⟩⟩⟩
  have hi : a.p.toNat < 3 := by omega
  obtain ⟨cs, hc, hrd⟩ := h.rd
  obtain ⟨y, Y, y0, y10, y11, _, _, ysub⟩ := hc.ct hi
  have hcl : s.clients.length = 3 := I.cl
  have rd : ∀ {w : World} {j m o : Nat} {z : List Value}, Ext u w → takeN y j m = some z → j + m ≤ 12 → o = 82 + a.p.toNat * 12 + j → Rd w sb o z := fun hw hz hjm ho => by
    rw [ho]
    exact hw.rd (hrd (ysub hz hjm)) fun h => h
  have hv : visitS s a = if a.kind = 6 then
      if (clientOf s a.p.toNat).here = true then (s, .no 4)
      else if a.n < 1 ∨ 24 < a.n ∨ a.m < 1 ∨ 10 < a.m then (s, .no 1)
      else ({ s with clients := s.clients.set a.p.toNat ⟨true, newG a.n a.m, [], true⟩ }, .no 0)
    else if (clientOf s a.p.toNat).here = false then (s, .no 3)
    else if a.kind = 7 then ({ s with clients := s.clients.set a.p.toNat .zero }, .no 0)
    else ({ s with clients := s.clients.set a.p.toNat { clientOf s a.p.toNat with queue := (clientOf s a.p.toNat).queue.drop (drainN a.n (clientOf s a.p.toNat).queue) } }, ⟨0, drainN a.n (clientOf s a.p.toNat).queue, (clientOf s a.p.toNat).queue.take (drainN a.n (clientOf s a.p.toNat).queue)⟩) := by
    unfold visitS
    rw [if_neg (by omega)]
  refine ⟨fun k6 => ⟨_, rfl, rd hd y0 (by decide) (by omega), fun hh => no hd (by rw [hv, if_pos k6, if_pos hh]), fun hh => ⟨fun _ => ?_, fun hn => (hn k6).elim⟩⟩, fun k6 => ⟨fun k => (k6 k).elim, fun _ => ⟨_, rfl, rd hd y0 (by decide) (by omega), fun hh => no hd (by rw [hv, if_neg k6, if_pos hh]), fun hh => ⟨fun k7 => ?_, fun k7 => ?_⟩⟩⟩⟩
  · refine ⟨fun b1 => no hd (by rw [hv, if_pos k6, if_neg (by rw [hh]; simp), if_pos (.inl b1)]), fun b1 => ⟨fun b2 => no hd (by rw [hv, if_pos k6, if_neg (by rw [hh]; simp), if_pos (.inr (.inl b2))]), fun b2 => ⟨fun b3 => no hd (by rw [hv, if_pos k6, if_neg (by rw [hh]; simp), if_pos (.inr (.inr (.inl b3)))]), fun b3 => ⟨fun b4 => no hd (by rw [hv, if_pos k6, if_neg (by rw [hh]; simp), if_pos (.inr (.inr (.inr b4)))]), fun b4 => ?_⟩⟩⟩⟩
    refine (gnew_ok a.n a.m).mono fun e w ⟨⟨nb, he, hco, hnb⟩, hw⟩ => ⟨_, _, _, _, _, _, _, _, _, _, _, he, rfl, ?_⟩
    have hx := hd.ext hw
    have hlt := h.lt
    have hnl := few_cells (new_ok' a.n a.m)
    have hds := hd.size
    obtain ⟨m1, m2⟩ := (h.ext hx).setClient hcl hi (r := ⟨true, newG a.n a.m, [], true⟩) (a := 0) (m := 12) (ys := [.bool true] ++ grV (newG a.n a.m) (some ⟨nb, 0, none⟩) (newG a.n a.m).cells.length (newG a.n a.m).cells.length ++ [.string (bstr []), .bool true]) rfl (by decide) (fun x hx' => by
      obtain ⟨⟨p, d, rfl, _, _⟩, _⟩ := hx'
      exact ⟨_, putN_all rfl, ⟨⟨_, _, rfl, hco.cells, fun _ k hk => h.new (by have := at_some hk; simp only at this; omega)⟩, by show (newG a.n a.m).cells.length ≤ 1000; omega⟩⟩) (o := 0 + 82 + a.p.toNat * 12) (by omega)
    refine ⟨m1, ?_⟩
    rw [hv, if_pos k6, if_neg (by rw [hh]; simp), if_neg (by omega)]
    exact ⟨rfl, m2, (hx.any (S := (· = sb))).put (fun _ => rfl) _ _⟩
  · obtain ⟨m1, m2⟩ := (h.ext hd).setClient hcl hi (r := .zero) (a := 0) (m := 12) (ys := [.bool false, .int .i64 0, .int .i64 0, .slice none 0 0, .int .i64 0, .int .i64 0, .int .i64 0, .bool false, .int .i64 0, .int .i64 0, .string (ByteArray.mk #[]), .bool false]) rfl (by decide) (fun x hx' => by
      obtain ⟨⟨p, d, rfl, _, _⟩, _⟩ := hx'
      exact ⟨_, putN_all rfl, ⟨⟨none, 0, rfl, Cells.nil _, fun _ k hk => (at_none hk).elim⟩, by decide⟩⟩) (o := 0 + 82 + a.p.toNat * 12) (by omega)
    refine ⟨rfl, m1, ?_⟩
    rw [hv, if_neg k6, if_neg (by rw [hh]; simp), if_pos k7]
    exact ⟨rfl, m2, (hd.any (S := (· = sb))).put (fun _ => rfl) _ _⟩
  · have hq := bstr_sz (clientOf s a.p.toNat).queue
    have hdr : ((drainN a.n (clientOf s a.p.toNat).queue : Nat) : Int) = max 0 (min a.n ((bstr (clientOf s a.p.toNat).queue).size : Nat)) := by unfold drainN; rw [hq]; omega
    have hdr2 : (max 0 (min a.n (((bstr (clientOf s a.p.toNat).queue).size : Nat) : Int))).toNat = drainN a.n (clientOf s a.p.toNat).queue := by omega
    have hdl : drainN a.n (clientOf s a.p.toNat).queue ≤ (clientOf s a.p.toNat).queue.length := by unfold drainN; omega
    obtain ⟨m1, m2⟩ := (h.ext hd2).setClient hcl hi (r := { clientOf s a.p.toNat with queue := (clientOf s a.p.toNat).queue.drop (drainN a.n (clientOf s a.p.toNat).queue) }) (a := 10) (m := 1) (ys := [.string (bstr ((clientOf s a.p.toNat).queue.drop (drainN a.n (clientOf s a.p.toNat).queue)))]) rfl (by decide) (fun x hx' => by
      obtain ⟨⟨p, d, rfl, c1, c2⟩, c3⟩ := hx'
      exact ⟨_, rfl, ⟨⟨p, d, rfl, c1, c2⟩, c3⟩⟩) (o := 0 + 82 + a.p.toNat * 12 + 10) (by omega)
    refine ⟨_, rfl, rd hd2 y10 (by decide) (by omega), _, rfl, rd hd2 y10 (by decide) (by omega), by omega, by omega, by omega, _, rfl, rd hd2 y10 (by decide) (by omega), by omega, by omega, by omega, rfl, ?_⟩
    have e1 : (bstr (clientOf s a.p.toNat).queue).extract (max 0 (min a.n (((bstr (clientOf s a.p.toNat).queue).size : Nat) : Int))).toNat (((bstr (clientOf s a.p.toNat).queue).size : Nat) : Int).toNat = bstr ((clientOf s a.p.toNat).queue.drop (drainN a.n (clientOf s a.p.toNat).queue)) := by
      rw [hdr2, extract_bstr, Int.toNat_natCast, hq]
      congr 1
      exact List.take_of_length_le (by rw [List.length_drop]; omega)
    have e2 : (bstr (clientOf s a.p.toNat).queue).extract (0 : Int).toNat (max 0 (min a.n (((bstr (clientOf s a.p.toNat).queue).size : Nat) : Int))).toNat = bstr ((clientOf s a.p.toNat).queue.take (drainN a.n (clientOf s a.p.toNat).queue)) := by
      rw [hdr2, extract_bstr]
      rfl
    rw [e1, e2, ← hdr]
    refine ⟨m1, ?_⟩
    rw [hv, if_neg k6, if_neg (by rw [hh]; simp), if_neg k7]
    exact ⟨rfl, m2, (hd2.any (S := (· = sb))).put (fun _ => rfl) _ _⟩

end Go.Proofs.YtkmmphkjmamckabDoor
