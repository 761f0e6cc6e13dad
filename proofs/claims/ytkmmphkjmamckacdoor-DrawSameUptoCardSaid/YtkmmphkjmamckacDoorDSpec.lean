/-
  Bytes that turn one screen into another, plainly: a law without the program.
-/
import Derived.Test.YtkmmphkjmamckacDoorZP
namespace Go.Proofs.YtkmmphkjmamckacDoor
open Go
set_option linter.all false

abbrev Bs := List UInt8

theorem feed_append : ∀ (a b : Bs) (p : Pr), feedP p (a ++ b) = ((feedP (feedP p a).1 b).1, (feedP p a).2 ++ (feedP (feedP p a).1 b).2)
  | [], _, _ => rfl
  | x :: a, b, p => by
    simp only [List.cons_append, feedP]
    rw [feed_append a b]
    simp only [List.append_assoc]

theorem feed_none {p q : Pr} {b : UInt8} (h : stepP p (b.toNat : Int) = (q, .none)) (rest : Bs) : feedP p (b :: rest) = feedP q rest := by
  show ((feedP (stepP p b.toNat).1 rest).1, (if (stepP p b.toNat).2.kind = 0 then [] else [(stepP p b.toNat).2]) ++ (feedP (stepP p b.toNat).1 rest).2) = _
  rw [h]
  simp [Ev.none]

theorem feed_some {p q : Pr} {e : Ev} {b : UInt8} (h : stepP p (b.toNat : Int) = (q, e)) (he : e.kind ≠ 0) : feedP p [b] = (q, [e]) := by
  show ((feedP (stepP p b.toNat).1 []).1, (if (stepP p b.toNat).2.kind = 0 then [] else [(stepP p b.toNat).2]) ++ (feedP (stepP p b.toNat).1 []).2) = _
  rw [h]
  simp [he, feedP]

theorem step_two (ps : List Int) (pl : ByteArray) (lg : Bool) (c : Int) : stepP ⟨2, ps, pl, lg⟩ c = cmdP ⟨2, ps, pl, lg⟩ c := rfl
theorem step_three (ps : List Int) (pl : ByteArray) (lg : Bool) (c : Int) : stepP ⟨3, ps, pl, lg⟩ c = if c = 27 then (⟨4, ps, pl, lg⟩, .none)
    else if c = 24 then (.zero, .none)
    else if 32 ≤ c ∧ c < 127 then
      if 48 ≤ pl.size then (⟨3, ps, pl, true⟩, .none) else (⟨3, ps, pl ++ byteS c, lg⟩, .none)
    else (⟨3, ps, pl, lg⟩, .none) := rfl

theorem all_append : ∀ (a b : List Ev) (g : Gr), (allG g a).2 = 0 → allG g (a ++ b) = allG (allG g a).1 b
  | [], _, _, _ => rfl
  | e :: a, b, g, h => by
    simp only [List.cons_append, allG] at h ⊢
    by_cases h0 : (doG g e).2 = 0
    · rw [if_pos h0] at h ⊢
      rw [if_pos h0]
      exact all_append a b _ h
    · rw [if_neg h0] at h
      exact (h0 h).elim

/-- Bytes that a parser on the ground reads whole, and what they do. -/
def Runs (g : Gr) (s : Bs) (g' : Gr) : Prop := ∃ evs, feedP .zero s = (.zero, evs) ∧ allG g evs = (g', 0)

theorem Runs.nil (g : Gr) : Runs g [] g := ⟨[], rfl, rfl⟩

theorem Runs.append {g g' g'' : Gr} {a b : Bs} (h : Runs g a g') (k : Runs g' b g'') : Runs g (a ++ b) g'' := by
  obtain ⟨l, h1, h2⟩ := h
  obtain ⟨m, k1, k2⟩ := k
  refine ⟨l ++ m, ?_, ?_⟩
  · rw [feed_append, h1]
    simp only [k1]
  · rw [all_append _ _ _ (by rw [h2]), h2]
    exact k2

theorem Runs.one {g : Gr} {s : Bs} {e : Ev} (hg : GoodG g) (hf : feedP .zero s = (.zero, [e])) (hd : (doG g e).2 = 0) : Runs g s (doG g e).1 :=
  ⟨[e], hf, by simp only [allG, if_pos hd]⟩

theorem do_good_eq {g : Gr} (h : GoodG g) (e : Ev) : doG g e = if e.kind = 1 then if e.b < 32 ∨ 126 < e.b then (g, 6) else (showG g e.b, 0)
  else if e.kind = 2 then (controlG g e.b, 0)
  else if e.kind = 3 then (commandG g e.b e.ps, 0)
  else if e.kind = 4 then (pictureG g e.pl.data.toList, 0)
  else if e.kind = 5 then (newG g.wide g.high, 0)
  else (g, 2) := by
  unfold doG
  rw [if_neg (by rw [goodG_iff.2 h]; simp)]

/-! ### Numbers as bytes -/

def byteN (n : Int) : UInt8 := UInt8.ofNat n.toNat

theorem byteN_val {n : Int} (h0 : 0 ≤ n) (h1 : n ≤ 255) : ((byteN n).toNat : Int) = n := by
  unfold byteN
  rw [UInt8.toNat_ofNat']
  omega

def dig (n : Int) : Bs := if n < 10 then [byteN (48 + n)] else [byteN (48 + n / 10), byteN (48 + n % 10)]

theorem step_digit (ps : List Int) (x : Int) {d : Int} (h0 : 0 ≤ d) (h1 : d ≤ 9) (hx : 10 * x + d ≤ 999) (rest : Bs) : feedP ⟨2, ps ++ [x], noBytes, false⟩ (byteN (48 + d) :: rest) = feedP ⟨2, ps ++ [10 * x + d], noBytes, false⟩ rest := by
  have hb := byteN_val (n := 48 + d) (by omega) (by omega)
  have hs : stepP ⟨2, ps ++ [x], noBytes, false⟩ ((byteN (48 + d)).toNat : Int) = (⟨2, ps ++ [10 * x + d], noBytes, false⟩, .none) := by
    rw [hb, step_two]
    unfold cmdP
    rw [if_pos (by omega)]
    have : lastNum (ps ++ [x]) (48 + d) = ps ++ [10 * x + d] := by
      unfold lastNum
      simp only [List.length_append, List.length_cons, List.length_nil, Nat.add_sub_cancel, List.getD_eq_getElem?_getD]
      simp
      omega
    rw [this]
  exact feed_none hs rest

theorem feed_dig (ps : List Int) {n : Int} (h0 : 0 ≤ n) (h1 : n < 100) (rest : Bs) : feedP ⟨2, ps ++ [0], noBytes, false⟩ (dig n ++ rest) = feedP ⟨2, ps ++ [n], noBytes, false⟩ rest := by
  unfold dig
  split
  · rw [List.cons_append, List.nil_append, step_digit ps 0 h0 (by omega) (by omega)]
    simp
  · rw [List.cons_append, List.cons_append, List.nil_append, step_digit ps 0 (by omega) (by omega) (by omega), step_digit ps _ (by omega) (by omega) (by omega)]
    rw [show 10 * (10 * 0 + n / 10) + n % 10 = n by omega]

theorem feed_semi (ps : List Int) (h : ps.length < 4) (rest : Bs) : feedP ⟨2, ps, noBytes, false⟩ (59 :: rest) = feedP ⟨2, ps ++ [0], noBytes, false⟩ rest := by
  have hs : stepP ⟨2, ps, noBytes, false⟩ (((59 : UInt8).toNat : Nat) : Int) = (⟨2, ps ++ [0], noBytes, false⟩, .none) := by
    show cmdP _ 59 = _
    unfold cmdP
    rw [if_neg (by omega), if_pos ⟨rfl, h⟩]
  exact feed_none hs rest

theorem feed_csi (rest : Bs) : feedP .zero (27 :: 91 :: rest) = feedP ⟨2, [0], noBytes, false⟩ rest := by
  have h1 : stepP .zero (((27 : UInt8).toNat : Nat) : Int) = (⟨1, [], noBytes, false⟩, .none) := rfl
  have h2 : stepP ⟨1, [], noBytes, false⟩ (((91 : UInt8).toNat : Nat) : Int) = (⟨2, [0], noBytes, false⟩, .none) := rfl
  rw [feed_none h1, feed_none h2]

theorem feed_final (ps : List Int) {b : UInt8} (h0 : 64 ≤ b.toNat) (h1 : b.toNat < 127) : feedP ⟨2, ps, noBytes, false⟩ [b] = (.zero, [⟨3, b.toNat, ps, noBytes⟩]) := by
  have hs : stepP ⟨2, ps, noBytes, false⟩ (b.toNat : Int) = (.zero, ⟨3, b.toNat, ps, noBytes⟩) := by
    rw [step_two]
    unfold cmdP
    rw [if_neg (by omega), if_neg (by omega), if_pos (by omega)]
  exact feed_some hs (by simp)

/-! ### The pen -/

def wrD (x : Gr × Bs) (s : Bs) : Gr × Bs := ((allG x.1 (feedP .zero s).2).1, x.2 ++ s)

theorem wrD_eq {g g' : Gr} {out s : Bs} (h : Runs g s g') : wrD (g, out) s = (g', out ++ s) := by
  obtain ⟨l, h1, h2⟩ := h
  unfold wrD
  simp only [h1, h2]

def moveBytes (r c : Int) : Bs := [27, 91] ++ (dig (r + 1) ++ (59 :: (dig (c + 1) ++ [72])))

def moveD (x : Gr × Bs) (r c : Int) : Gr × Bs := if x.1.row ≠ r ∨ x.1.col ≠ c then wrD x (moveBytes r c) else x

def inkBytes (c : Cl) : Bs := [27, 91, 48] ++ ((if c.bold = true then [59, 49] else []) ++ ((if 0 < c.ink then 59 :: dig (29 + c.ink) else []) ++ [109]))

def inkD (x : Gr × Bs) (c : Cl) : Gr × Bs := if x.1.ink = c.ink ∧ x.1.bold = c.bold then x else wrD x (inkBytes c)

def picBytes (c : Cl) : Bs := [27, 80, byteN (97 + c.pic - 1), 27, 92]

def cellD (x : Gr × Bs) (r c : Int) (k : Cl) : Gr × Bs :=
  let x := moveD x r c
  if 0 < k.pic then wrD x (picBytes k)
  else if k.ch = 0 then wrD x [27, 91, 75]
  else wrD (inkD x k) [byteN k.ch]

def turnCell (to : Gr) (x : Gr × Bs) (i : Nat) : Gr × Bs :=
  if cg x.1.cells i = cg to.cells i then x else cellD x ((i / to.wide.toNat : Nat) : Int) ((i % to.wide.toNat : Nat) : Int) (cg to.cells i)

def turnCells (to : Gr) (x : Gr × Bs) : Nat → Gr × Bs
  | 0 => x
  | n + 1 => turnCell to (turnCells to x n) n

def turnD (frm to : Gr) : Gr × Bs := moveD (turnCells to (frm, []) (to.wide.toNat * to.high.toNat)) to.row to.col

def mayTurn (frm to : Gr) : Prop := GoodG frm ∧ GoodG to ∧ frm.wide = to.wide ∧ frm.high = to.high ∧ to.col < to.wide

theorem dig_len (n : Int) : 1 ≤ (dig n).length ∧ (dig n).length ≤ 2 := by
  unfold dig; split <;> exact ⟨by simp, by simp⟩

theorem moveBytes_len (r c : Int) : (moveBytes r c).length ≤ 8 := by
  have := dig_len (r + 1)
  have := dig_len (c + 1)
  simp [moveBytes]
  omega

theorem inkBytes_len (c : Cl) : (inkBytes c).length ≤ 9 := by
  have := dig_len (29 + c.ink)
  unfold inkBytes
  simp only [List.length_append, List.length_cons, List.length_nil]
  split <;> split <;> simp <;> omega

theorem move_runs {g : Gr} (hg : GoodG g) {r c : Int} (hr : 0 ≤ r ∧ r < g.high) (hc : 0 ≤ c ∧ c < g.wide) : Runs g (moveBytes r c) { g with row := r, col := c } := by
  have h2 := hg.h2
  have w2 := hg.w2
  have hf : feedP .zero (moveBytes r c) = (.zero, [⟨3, 72, [r + 1, c + 1], noBytes⟩]) := by
    unfold moveBytes
    rw [List.cons_append, List.cons_append, List.nil_append, feed_csi]
    have e1 := feed_dig [] (n := r + 1) (by omega) (by omega) (59 :: (dig (c + 1) ++ [72]))
    rw [List.nil_append, List.nil_append] at e1
    rw [e1, feed_semi _ (by simp), feed_dig _ (by omega) (by omega), feed_final _ (by decide) (by decide)]
    rfl
  have hd : doG g ⟨3, 72, [r + 1, c + 1], noBytes⟩ = ({ g with row := r, col := c }, 0) := by
    rw [do_good_eq hg]
    dsimp only
    rw [if_neg (by omega), if_neg (by omega), if_pos rfl]
    have n0 : numP [r + 1, c + 1] 0 1 = r + 1 := by show max 1 (min (r + 1) 999) = _; omega
    have n1 : numP [r + 1, c + 1] 1 1 = c + 1 := by show max 1 (min (c + 1) 999) = _; omega
    unfold commandG
    dsimp only
    rw [n0, n1, if_neg (by omega), if_neg (by omega), if_neg (by omega), if_neg (by omega), if_pos rfl]
    rw [show min g.high (r + 1) - 1 = r by omega, show min g.wide (c + 1) - 1 = c by omega]
  have := Runs.one hg hf (by rw [hd])
  rwa [hd] at this

theorem moveD_eq {g : Gr} {out : Bs} (hg : GoodG g) {r c : Int} (hr : 0 ≤ r ∧ r < g.high) (hc : 0 ≤ c ∧ c < g.wide) :
    ∃ s, moveD (g, out) r c = ({ g with row := r, col := c }, out ++ s) ∧ Runs g s { g with row := r, col := c } ∧ s.length ≤ 8 ∧ (g.row = r → g.col = c → s = []) := by
  unfold moveD
  split
  · next h => exact ⟨_, wrD_eq (move_runs hg hr hc), move_runs hg hr hc, moveBytes_len _ _, fun h1 h2 => by simp [h1, h2] at h⟩
  · next h =>
    have h1 : g.row = r := by apply Classical.byContradiction; intro hn; exact h (.inl hn)
    have h2 : g.col = c := by apply Classical.byContradiction; intro hn; exact h (.inr hn)
    subst h1 h2
    exact ⟨[], by simp, Runs.nil _, by simp, fun _ _ => rfl⟩

theorem inks_bytes {c : Cl} (h0 : 0 ≤ c.ink) (h1 : c.ink ≤ 8) : feedP .zero (inkBytes c) = (.zero, [⟨3, 109, [0] ++ (if c.bold = true then [1] else []) ++ (if 0 < c.ink then [29 + c.ink] else []), noBytes⟩]) := by
  have hz : ∀ rest : Bs, feedP .zero ([27, 91, 48] ++ rest) = feedP ⟨2, [0], noBytes, false⟩ rest := fun rest => by
    have e := step_digit [] 0 (d := 0) (by decide) (by decide) (by decide) rest
    rw [List.cons_append, List.cons_append, List.cons_append, List.nil_append, feed_csi]
    exact e
  have h1' : ∀ (ps : List Int) (rest : Bs), ps.length < 4 → feedP ⟨2, ps, noBytes, false⟩ ([59, 49] ++ rest) = feedP ⟨2, ps ++ [1], noBytes, false⟩ rest := fun ps rest hl => by
    rw [List.cons_append, List.cons_append, List.nil_append, feed_semi _ hl]
    exact step_digit ps 0 (d := 1) (by decide) (by decide) (by decide) rest
  have h2' : ∀ (ps : List Int) (rest : Bs), ps.length < 4 → feedP ⟨2, ps, noBytes, false⟩ ((59 :: dig (29 + c.ink)) ++ rest) = feedP ⟨2, ps ++ [29 + c.ink], noBytes, false⟩ rest := fun ps rest hl => by
    rw [List.cons_append, feed_semi _ hl, feed_dig _ (by omega) (by omega)]
  unfold inkBytes
  rw [hz]
  cases c.bold <;> by_cases hk : 0 < c.ink
  · simp only [hk, if_true, Bool.false_eq_true, if_false, List.nil_append, List.append_nil]
    rw [h2' _ _ (by simp), feed_final _ (by decide) (by decide)]
    rfl
  · simp only [hk, if_false, Bool.false_eq_true, List.nil_append, List.append_nil]
    rw [feed_final _ (by decide) (by decide)]
    rfl
  · simp only [hk, if_true]
    rw [h1' _ _ (by simp), h2' _ _ (by simp), feed_final _ (by decide) (by decide)]
    rfl
  · simp only [hk, if_true, if_false, List.nil_append, List.append_nil]
    rw [h1' _ _ (by simp), feed_final _ (by decide) (by decide)]
    rfl

theorem ink_runs {g : Gr} (hg : GoodG g) {c : Cl} (h0 : 0 ≤ c.ink) (h1 : c.ink ≤ 8) : Runs g (inkBytes c) { g with ink := c.ink, bold := c.bold } := by
  have hd : doG g ⟨3, 109, [0] ++ (if c.bold = true then [1] else []) ++ (if 0 < c.ink then [29 + c.ink] else []), noBytes⟩ = ({ g with ink := c.ink, bold := c.bold }, 0) := by
    rw [do_good_eq hg]
    dsimp only
    rw [if_neg (by omega), if_neg (by omega), if_pos rfl]
    unfold commandG
    dsimp only
    rw [if_neg (by omega), if_neg (by omega), if_neg (by omega), if_neg (by omega), if_neg (by omega), if_neg (by omega), if_neg (by omega), if_neg (by omega), if_pos rfl]
    have hink : ∀ x : Gr, 0 < c.ink → inkG x (29 + c.ink) = { x with ink := c.ink } := fun x hk => by
      unfold inkG
      rw [if_neg (by omega), if_neg (by omega), if_neg (by omega), if_pos (by omega), show 29 + c.ink - 29 = c.ink by omega]
    have hz : ∀ x : Gr, inkG x 0 = { x with ink := 0, bold := false } := fun x => rfl
    have ho : ∀ x : Gr, inkG x 1 = { x with bold := true } := fun x => rfl
    cases hb : c.bold <;> by_cases hk : 0 < c.ink
    · simp only [hk, if_true, Bool.false_eq_true, if_false, List.append_nil, List.cons_append, List.nil_append, List.foldl_cons, List.foldl_nil, hz, hink _ hk]
    · simp only [hk, Bool.false_eq_true, if_false, List.append_nil, List.cons_append, List.nil_append, List.foldl_cons, List.foldl_nil, hz]
      rw [show c.ink = 0 by omega]
    · simp only [hk, if_true, List.append_nil, List.cons_append, List.nil_append, List.foldl_cons, List.foldl_nil, hz, ho, hink _ hk]
    · simp only [hk, if_true, if_false, List.append_nil, List.cons_append, List.nil_append, List.foldl_cons, List.foldl_nil, hz, ho]
      rw [show c.ink = 0 by omega]
  have := Runs.one hg (inks_bytes h0 h1) (by rw [hd])
  rwa [hd] at this

theorem inkD_eq {g : Gr} {out : Bs} (hg : GoodG g) {c : Cl} (h0 : 0 ≤ c.ink) (h1 : c.ink ≤ 8) :
    ∃ s, inkD (g, out) c = ({ g with ink := c.ink, bold := c.bold }, out ++ s) ∧ Runs g s { g with ink := c.ink, bold := c.bold } ∧ s.length ≤ 9 := by
  unfold inkD
  split
  · next h =>
    obtain ⟨h2, h3⟩ := h
    simp only at h2 h3
    exact ⟨[], by rw [← h2, ← h3]; simp, by rw [← h2, ← h3]; exact Runs.nil _, by simp⟩
  · exact ⟨_, wrD_eq (ink_runs hg h0 h1), ink_runs hg h0 h1, inkBytes_len _⟩

theorem pic_runs {g : Gr} (hg : GoodG g) (hc : g.col < g.wide) {k : Cl} (h0 : 0 < k.pic) (h1 : k.pic ≤ 8) : Runs g (picBytes k) { g with cells := g.cells.set (g.row * g.wide + g.col).toNat ⟨0, 0, k.pic, false⟩ } := by
  have hb := byteN_val (n := 97 + k.pic - 1) (by omega) (by omega)
  have hr := hg.r2
  have hf : feedP .zero (picBytes k) = (.zero, [⟨4, 0, [], noBytes ++ byteS (97 + k.pic - 1)⟩]) := by
    unfold picBytes
    have s1 : stepP .zero (((27 : UInt8).toNat : Nat) : Int) = (⟨1, [], noBytes, false⟩, .none) := rfl
    have s2 : stepP ⟨1, [], noBytes, false⟩ (((80 : UInt8).toNat : Nat) : Int) = (⟨3, [], noBytes, false⟩, .none) := rfl
    have s3 : stepP ⟨3, [], noBytes, false⟩ ((byteN (97 + k.pic - 1)).toNat : Int) = (⟨3, [], noBytes ++ byteS (97 + k.pic - 1), false⟩, .none) := by
      rw [hb, step_three]
      rw [if_neg (by omega), if_neg (by omega), if_pos (by omega), if_neg (by decide)]
    have s4 : ∀ pl, stepP ⟨3, [], pl, false⟩ (((27 : UInt8).toNat : Nat) : Int) = (⟨4, [], pl, false⟩, .none) := fun _ => rfl
    have s5 : ∀ pl, stepP ⟨4, [], pl, false⟩ (((92 : UInt8).toNat : Nat) : Int) = (.zero, ⟨4, 0, [], pl⟩) := fun _ => rfl
    rw [feed_none s1, feed_none s2, feed_none s3, feed_none (s4 _), feed_some (s5 _) (by simp)]
  have hpl : (noBytes ++ byteS (97 + k.pic - 1)).data.toList = [byteN (97 + k.pic - 1)] := by
    rw [ByteArray.data_append]
    simp [byteS, byteN, noBytes]
  have hd : doG g ⟨4, 0, [], noBytes ++ byteS (97 + k.pic - 1)⟩ = ({ g with cells := g.cells.set (g.row * g.wide + g.col).toNat ⟨0, 0, k.pic, false⟩ }, 0) := by
    rw [do_good_eq hg]
    dsimp only
    rw [if_neg (by omega), if_neg (by omega), if_neg (by omega), if_pos rfl, hpl]
    unfold pictureG
    have hm : min g.col (g.wide - 1) = g.col := by omega
    rw [hm]
    simp only [picC]
    rw [if_neg (by omega), if_pos (by omega), hb, show (97 : Int) + k.pic - 1 - 96 = k.pic by omega]
  have := Runs.one hg hf (by rw [hd])
  rwa [hd] at this

theorem blank_runs {g : Gr} (hg : GoodG g) (hc : g.col < g.wide) : Runs g [27, 91, 75] { g with cells := eraseC (g.row * g.wide + g.col).toNat ((g.row + 1) * g.wide).toNat g.cells } := by
  have hf : feedP .zero [27, 91, 75] = (.zero, [⟨3, 75, [0], noBytes⟩]) := by
    rw [feed_csi, feed_final _ (by decide) (by decide)]; rfl
  have hd : doG g ⟨3, 75, [0], noBytes⟩ = ({ g with cells := eraseC (g.row * g.wide + g.col).toNat ((g.row + 1) * g.wide).toNat g.cells }, 0) := by
    rw [do_good_eq hg]
    dsimp only
    rw [if_neg (by omega), if_neg (by omega), if_pos rfl]
    unfold commandG
    dsimp only
    rw [if_neg (by omega), if_neg (by omega), if_neg (by omega), if_neg (by omega), if_neg (by omega), if_neg (by omega), if_pos rfl]
    have hm : min g.col (g.wide - 1) = g.col := by omega
    rw [hm]
    rw [show numP [0] 0 0 = 0 from rfl]
    rfl
  have := Runs.one hg hf (by rw [hd])
  rwa [hd] at this

theorem show_runs {g : Gr} (hg : GoodG g) (hc : g.col < g.wide) {ch : Int} (h0 : 32 ≤ ch) (h1 : ch ≤ 126) : Runs g [byteN ch] { g with cells := g.cells.set (g.row * g.wide + g.col).toNat ⟨ch, g.ink, 0, g.bold⟩, col := g.col + 1 } := by
  have hb := byteN_val (n := ch) (by omega) (by omega)
  have hf : feedP .zero [byteN ch] = (.zero, [⟨1, ch, [], noBytes⟩]) := by
    have s1 : stepP .zero ((byteN ch).toNat : Int) = (.zero, ⟨1, ch, [], noBytes⟩) := by
      rw [hb]
      unfold stepP
      rw [if_pos (show Pr.zero.at_ = 0 from rfl), if_neg (by omega), if_pos (by omega)]
    exact feed_some s1 (by simp)
  have hd : doG g ⟨1, ch, [], noBytes⟩ = ({ g with cells := g.cells.set (g.row * g.wide + g.col).toNat ⟨ch, g.ink, 0, g.bold⟩, col := g.col + 1 }, 0) := by
    rw [do_good_eq hg]
    dsimp only
    rw [if_pos rfl, if_neg (by omega)]
    unfold showG
    rw [if_neg (by omega)]
  have := Runs.one hg hf (by rw [hd])
  rwa [hd] at this

end Go.Proofs.YtkmmphkjmamckacDoor
