/-
  No cell of these rows narrows 'for every input' (looked for: loops, veiled, ifaces, maps, wideKeys, modest, calm, conditions, laid).
  DERIVED. THE GIVEN ROWS OF THIS SEAT. 10 by the template 'for every input the law returns true; each argument reads behind the call as it read before'; 0 by the template 'total and deterministic' (their statements: YtkmmphkjmamckabTotals.lean).
  GIVEN WITH THE SEED: the statements are not yours to turn. If you find one false, say at which input.
  Laid BY PROGRAM, IN A SANDBOX (cutbox-rows.mjs): the forced cells as the released guide's own fill.sh prints them over the translation fd564db948b18ecb… (all of the seat's roots in one cut). By AI agents, Wed Nov 11 2026. No macro, syntax, notation, axiom, sorry.
-/
import Derived.Test.YtkmmphkjmamckabChecked
import GoSem.Claim
import GoSem.ClaimJoined
import GoSem.ClaimMapViews
import Derived.JoinedTies
import Derived.KernelRfl
namespace Go.Proofs.Ytkmmphkjmamckab
/- THE CELL 'sum', in the pinned program and in every row, IS THE sha256 OF THE DUMP (.gsa) THAT YtkmmphkjmamckabProg.lean LOADS. Nothing in Lean hashes anything: it is a label: what it is worth is what the hold of that sum in a sandbox is worth. -/
noncomputable def Try.pinned : Pinned := { name := "ytkmmphkjmamckab", sum := "fd564db948b18ecb25c1f1b120327176ec1ef3b25a87d810a6a9de461a16b7c5", checked := Try.checked }
namespace Rows
def none {H : Type} : Left H := { results := [], args := [] }

/-- 'fenestrakeep.GridScrolls': WHATEVER THE INPUT: true; the input reads as it did. -/
def gridScrollsSpec : ChangeSpec := { name := "gridScrolls", fn := fun _ => fun
  | [d] => { results := [.lit (.bool true)], args := [d] }
  | _ => none }
def gridScrollsRow : OpenClaim := { program := "ytkmmphkjmamckab", sum := "fd564db948b18ecb25c1f1b120327176ec1ef3b25a87d810a6a9de461a16b7c5", func := "fenestra/fenestrakeep.GridScrolls", spec := "gridScrolls", unfollowed := true, recurses := true, apart := false }
def GridScrollsSaid : Prop := gridScrollsRow.holds Try.pinned (OpenSpec.ofChange gridScrollsSpec)

/-- ITS FALSE NEIGHBOUR: 'it returns false'. Refute it at one input. -/
def gridScrollsWrong : ChangeSpec := { name := "gridScrolls", fn := fun _ => fun
  | [d] => { results := [.lit (.bool false)], args := [d] }
  | _ => none }
def GridScrollsWrongFalsely : Prop := gridScrollsRow.holds Try.pinned (OpenSpec.ofChange gridScrollsWrong)

/-- 'fenestrakeep.GridRegion': WHATEVER THE INPUT: true; the input reads as it did. -/
def gridRegionSpec : ChangeSpec := { name := "gridRegion", fn := fun _ => fun
  | [d1, d2] => { results := [.lit (.bool true)], args := [d1, d2] }
  | _ => none }
def gridRegionRow : OpenClaim := { program := "ytkmmphkjmamckab", sum := "fd564db948b18ecb25c1f1b120327176ec1ef3b25a87d810a6a9de461a16b7c5", func := "fenestra/fenestrakeep.GridRegion", spec := "gridRegion", unfollowed := true, recurses := true, apart := false }
def GridRegionSaid : Prop := gridRegionRow.holds Try.pinned (OpenSpec.ofChange gridRegionSpec)

/-- ITS FALSE NEIGHBOUR: 'it returns false'. Refute it at one input. -/
def gridRegionWrong : ChangeSpec := { name := "gridRegion", fn := fun _ => fun
  | [d1, d2] => { results := [.lit (.bool false)], args := [d1, d2] }
  | _ => none }
def GridRegionWrongFalsely : Prop := gridRegionRow.holds Try.pinned (OpenSpec.ofChange gridRegionWrong)

/-- 'fenestrakeep.GridPictures': WHATEVER THE INPUT: true; the input reads as it did. -/
def gridPicturesSpec : ChangeSpec := { name := "gridPictures", fn := fun _ => fun
  | [d1, d2] => { results := [.lit (.bool true)], args := [d1, d2] }
  | _ => none }
def gridPicturesRow : OpenClaim := { program := "ytkmmphkjmamckab", sum := "fd564db948b18ecb25c1f1b120327176ec1ef3b25a87d810a6a9de461a16b7c5", func := "fenestra/fenestrakeep.GridPictures", spec := "gridPictures", unfollowed := true, recurses := true, apart := false }
def GridPicturesSaid : Prop := gridPicturesRow.holds Try.pinned (OpenSpec.ofChange gridPicturesSpec)

/-- ITS FALSE NEIGHBOUR: 'it returns false'. Refute it at one input. -/
def gridPicturesWrong : ChangeSpec := { name := "gridPictures", fn := fun _ => fun
  | [d1, d2] => { results := [.lit (.bool false)], args := [d1, d2] }
  | _ => none }
def GridPicturesWrongFalsely : Prop := gridPicturesRow.holds Try.pinned (OpenSpec.ofChange gridPicturesWrong)

/-- 'fenestralaw.TilesPlaces': WHATEVER THE INPUT: true; the input reads as it did. -/
def tilesPlacesSpec : ChangeSpec := { name := "tilesPlaces", fn := fun _ => fun
  | [d1, d2, d3, d4, d5] => { results := [.lit (.bool true)], args := [d1, d2, d3, d4, d5] }
  | _ => none }
def tilesPlacesRow : OpenClaim := { program := "ytkmmphkjmamckab", sum := "fd564db948b18ecb25c1f1b120327176ec1ef3b25a87d810a6a9de461a16b7c5", func := "fenestra/fenestralaw.TilesPlaces", spec := "tilesPlaces", inPlace := ["slices.overlaps[[]int]", "slices.overlaps[int]"], apart := false }
def TilesPlacesSaid : Prop := tilesPlacesRow.holds Try.pinned (OpenSpec.ofChange tilesPlacesSpec)

/-- ITS FALSE NEIGHBOUR: 'it returns false'. Refute it at one input. -/
def tilesPlacesWrong : ChangeSpec := { name := "tilesPlaces", fn := fun _ => fun
  | [d1, d2, d3, d4, d5] => { results := [.lit (.bool false)], args := [d1, d2, d3, d4, d5] }
  | _ => none }
def TilesPlacesWrongFalsely : Prop := tilesPlacesRow.holds Try.pinned (OpenSpec.ofChange tilesPlacesWrong)

/-- 'fenestrakeep.TilesApart': WHATEVER THE INPUT: true; the input reads as it did. -/
def tilesApartSpec : ChangeSpec := { name := "tilesApart", fn := fun _ => fun
  | [d1, d2, d3, d4, d5] => { results := [.lit (.bool true)], args := [d1, d2, d3, d4, d5] }
  | _ => none }
def tilesApartRow : OpenClaim := { program := "ytkmmphkjmamckab", sum := "fd564db948b18ecb25c1f1b120327176ec1ef3b25a87d810a6a9de461a16b7c5", func := "fenestra/fenestrakeep.TilesApart", spec := "tilesApart", inPlace := ["slices.overlaps[[]int]", "slices.overlaps[int]"], apart := false }
def TilesApartSaid : Prop := tilesApartRow.holds Try.pinned (OpenSpec.ofChange tilesApartSpec)

/-- ITS FALSE NEIGHBOUR: 'it returns false'. Refute it at one input. -/
def tilesApartWrong : ChangeSpec := { name := "tilesApart", fn := fun _ => fun
  | [d1, d2, d3, d4, d5] => { results := [.lit (.bool false)], args := [d1, d2, d3, d4, d5] }
  | _ => none }
def TilesApartWrongFalsely : Prop := tilesApartRow.holds Try.pinned (OpenSpec.ofChange tilesApartWrong)

/-- 'fenestrakeep.TilesShares': WHATEVER THE INPUT: true; the input reads as it did. -/
def tilesSharesSpec : ChangeSpec := { name := "tilesShares", fn := fun _ => fun
  | [d1, d2] => { results := [.lit (.bool true)], args := [d1, d2] }
  | _ => none }
def tilesSharesRow : OpenClaim := { program := "ytkmmphkjmamckab", sum := "fd564db948b18ecb25c1f1b120327176ec1ef3b25a87d810a6a9de461a16b7c5", func := "fenestra/fenestrakeep.TilesShares", spec := "tilesShares", inPlace := ["slices.overlaps[[]int]", "slices.overlaps[int]"], apart := false }
def TilesSharesSaid : Prop := tilesSharesRow.holds Try.pinned (OpenSpec.ofChange tilesSharesSpec)

/-- ITS FALSE NEIGHBOUR: 'it returns false'. Refute it at one input. -/
def tilesSharesWrong : ChangeSpec := { name := "tilesShares", fn := fun _ => fun
  | [d1, d2] => { results := [.lit (.bool false)], args := [d1, d2] }
  | _ => none }
def TilesSharesWrongFalsely : Prop := tilesSharesRow.holds Try.pinned (OpenSpec.ofChange tilesSharesWrong)

/-- 'fenestralaw.GridAll': WHATEVER THE INPUT: true; the input reads as it did. -/
def gridAllSpec : ChangeSpec := { name := "gridAll", fn := fun _ => fun
  | [d1, d2] => { results := [.lit (.bool true)], args := [d1, d2] }
  | _ => none }
def gridAllRow : OpenClaim := { program := "ytkmmphkjmamckab", sum := "fd564db948b18ecb25c1f1b120327176ec1ef3b25a87d810a6a9de461a16b7c5", func := "fenestra/fenestralaw.GridAll", spec := "gridAll", unfollowed := true, recurses := true, apart := false }
def GridAllSaid : Prop := gridAllRow.holds Try.pinned (OpenSpec.ofChange gridAllSpec)

/-- ITS FALSE NEIGHBOUR: 'it returns false'. Refute it at one input. -/
def gridAllWrong : ChangeSpec := { name := "gridAll", fn := fun _ => fun
  | [d1, d2] => { results := [.lit (.bool false)], args := [d1, d2] }
  | _ => none }
def GridAllWrongFalsely : Prop := gridAllRow.holds Try.pinned (OpenSpec.ofChange gridAllWrong)

/-- 'fenestralaw.GridSizes': WHATEVER THE INPUT: true; the input reads as it did. -/
def gridSizesSpec : ChangeSpec := { name := "gridSizes", fn := fun _ => fun
  | [d1, d2, d3, d4, d5, d6] => { results := [.lit (.bool true)], args := [d1, d2, d3, d4, d5, d6] }
  | _ => none }
def gridSizesRow : OpenClaim := { program := "ytkmmphkjmamckab", sum := "fd564db948b18ecb25c1f1b120327176ec1ef3b25a87d810a6a9de461a16b7c5", func := "fenestra/fenestralaw.GridSizes", spec := "gridSizes", unfollowed := true, recurses := true, apart := false }
def GridSizesSaid : Prop := gridSizesRow.holds Try.pinned (OpenSpec.ofChange gridSizesSpec)

/-- ITS FALSE NEIGHBOUR: 'it returns false'. Refute it at one input. -/
def gridSizesWrong : ChangeSpec := { name := "gridSizes", fn := fun _ => fun
  | [d1, d2, d3, d4, d5, d6] => { results := [.lit (.bool false)], args := [d1, d2, d3, d4, d5, d6] }
  | _ => none }
def GridSizesWrongFalsely : Prop := gridSizesRow.holds Try.pinned (OpenSpec.ofChange gridSizesWrong)

/-- 'fenestrakeep.GridResizes': WHATEVER THE INPUT: true; the input reads as it did. -/
def gridResizesSpec : ChangeSpec := { name := "gridResizes", fn := fun _ => fun
  | [d1, d2, d3] => { results := [.lit (.bool true)], args := [d1, d2, d3] }
  | _ => none }
def gridResizesRow : OpenClaim := { program := "ytkmmphkjmamckab", sum := "fd564db948b18ecb25c1f1b120327176ec1ef3b25a87d810a6a9de461a16b7c5", func := "fenestra/fenestrakeep.GridResizes", spec := "gridResizes", unfollowed := true, recurses := true, apart := false }
def GridResizesSaid : Prop := gridResizesRow.holds Try.pinned (OpenSpec.ofChange gridResizesSpec)

/-- ITS FALSE NEIGHBOUR: 'it returns false'. Refute it at one input. -/
def gridResizesWrong : ChangeSpec := { name := "gridResizes", fn := fun _ => fun
  | [d1, d2, d3] => { results := [.lit (.bool false)], args := [d1, d2, d3] }
  | _ => none }
def GridResizesWrongFalsely : Prop := gridResizesRow.holds Try.pinned (OpenSpec.ofChange gridResizesWrong)

/-- 'fenestralaw.TilesSplits': WHATEVER THE INPUT: true; the input reads as it did. -/
def tilesSplitsSpec : ChangeSpec := { name := "tilesSplits", fn := fun _ => fun
  | [d1, d2, d3, d4] => { results := [.lit (.bool true)], args := [d1, d2, d3, d4] }
  | _ => none }
def tilesSplitsRow : OpenClaim := { program := "ytkmmphkjmamckab", sum := "fd564db948b18ecb25c1f1b120327176ec1ef3b25a87d810a6a9de461a16b7c5", func := "fenestra/fenestralaw.TilesSplits", spec := "tilesSplits", inPlace := ["slices.overlaps[[]int]", "slices.overlaps[int]"], apart := false }
def TilesSplitsSaid : Prop := tilesSplitsRow.holds Try.pinned (OpenSpec.ofChange tilesSplitsSpec)

/-- ITS FALSE NEIGHBOUR: 'it returns false'. Refute it at one input. -/
def tilesSplitsWrong : ChangeSpec := { name := "tilesSplits", fn := fun _ => fun
  | [d1, d2, d3, d4] => { results := [.lit (.bool false)], args := [d1, d2, d3, d4] }
  | _ => none }
def TilesSplitsWrongFalsely : Prop := tilesSplitsRow.holds Try.pinned (OpenSpec.ofChange tilesSplitsWrong)

/- THE SECOND FORM. 'bulk': how many values and letters a reading holds, each counted each time it is reached (what is shared counts as often as it is met; a slice's spare places count too). A statement '..UptoSaid' is the law's where the arguments, and the package variables that the reading takes, are together of bulk at most 1048576: NARROWER than '..Said'. Prove '..Said' where nothing that the law and all that it calls make is longer than what came in: it says more and counts as full. Else prove '..UptoSaid'. A law counts once. -/
mutual
def uptoBulk {H : Type} : DataW H → Nat
  | .lit (.string bytes) => bytes.length + 1
  | .lit _ => 1
  | .nil => 1
  | .ptr d => uptoBulk d + 1
  | .slice elems spare => uptoBulkAll elems + uptoBulkAll spare + 1
  | .agg parts => uptoBulkAll parts + 1
  | .iface _ d => uptoBulk d + 1
  | .map entries => uptoBulkEntries entries + 1
  | .held _ => 1
def uptoBulkAll {H : Type} : List (DataW H) → Nat
  | [] => 0
  | d :: r => uptoBulk d + uptoBulkAll r
def uptoBulkEntries {H : Type} : List (Lit × DataW H) → Nat
  | [] => 0
  | x :: r => uptoBulkEntry x + uptoBulkEntries r
def uptoBulkEntry {H : Type} : Lit × DataW H → Nat
  | (.string bytes, d) => bytes.length + uptoBulk d + 1
  | (_, d) => uptoBulk d + 1
 end
def uptoSmall : (H : Type) → List (DataW H) → Bool := fun _ ds => decide (uptoBulkAll ds ≤ 1048576)
def OpenSpec.upto (s : _root_.Go.ChangeSpec) : _root_.Go.OpenSpec := { _root_.Go.OpenSpec.ofChange s with cond := some uptoSmall }

/-- 'fenestrakeep.GridScrolls', WHERE WHAT IT READS IS OF BULK AT MOST 1048576: true; the input reads as it did. -/
def gridScrollsUptoRow : OpenClaim := { program := "ytkmmphkjmamckab", sum := "fd564db948b18ecb25c1f1b120327176ec1ef3b25a87d810a6a9de461a16b7c5", func := "fenestra/fenestrakeep.GridScrolls", spec := "gridScrolls", unfollowed := true, recurses := true, apart := false, narrowed := true }
def GridScrollsUptoSaid : Prop := gridScrollsUptoRow.holds Try.pinned (OpenSpec.upto gridScrollsSpec)

/-- 'fenestrakeep.GridRegion', WHERE WHAT IT READS IS OF BULK AT MOST 1048576: true; the input reads as it did. -/
def gridRegionUptoRow : OpenClaim := { program := "ytkmmphkjmamckab", sum := "fd564db948b18ecb25c1f1b120327176ec1ef3b25a87d810a6a9de461a16b7c5", func := "fenestra/fenestrakeep.GridRegion", spec := "gridRegion", unfollowed := true, recurses := true, apart := false, narrowed := true }
def GridRegionUptoSaid : Prop := gridRegionUptoRow.holds Try.pinned (OpenSpec.upto gridRegionSpec)

/-- 'fenestrakeep.GridPictures', WHERE WHAT IT READS IS OF BULK AT MOST 1048576: true; the input reads as it did. -/
def gridPicturesUptoRow : OpenClaim := { program := "ytkmmphkjmamckab", sum := "fd564db948b18ecb25c1f1b120327176ec1ef3b25a87d810a6a9de461a16b7c5", func := "fenestra/fenestrakeep.GridPictures", spec := "gridPictures", unfollowed := true, recurses := true, apart := false, narrowed := true }
def GridPicturesUptoSaid : Prop := gridPicturesUptoRow.holds Try.pinned (OpenSpec.upto gridPicturesSpec)

/-- 'fenestralaw.TilesPlaces', WHERE WHAT IT READS IS OF BULK AT MOST 1048576: true; the input reads as it did. -/
def tilesPlacesUptoRow : OpenClaim := { program := "ytkmmphkjmamckab", sum := "fd564db948b18ecb25c1f1b120327176ec1ef3b25a87d810a6a9de461a16b7c5", func := "fenestra/fenestralaw.TilesPlaces", spec := "tilesPlaces", inPlace := ["slices.overlaps[[]int]", "slices.overlaps[int]"], apart := false, narrowed := true }
def TilesPlacesUptoSaid : Prop := tilesPlacesUptoRow.holds Try.pinned (OpenSpec.upto tilesPlacesSpec)

/-- 'fenestrakeep.TilesApart', WHERE WHAT IT READS IS OF BULK AT MOST 1048576: true; the input reads as it did. -/
def tilesApartUptoRow : OpenClaim := { program := "ytkmmphkjmamckab", sum := "fd564db948b18ecb25c1f1b120327176ec1ef3b25a87d810a6a9de461a16b7c5", func := "fenestra/fenestrakeep.TilesApart", spec := "tilesApart", inPlace := ["slices.overlaps[[]int]", "slices.overlaps[int]"], apart := false, narrowed := true }
def TilesApartUptoSaid : Prop := tilesApartUptoRow.holds Try.pinned (OpenSpec.upto tilesApartSpec)

/-- 'fenestrakeep.TilesShares', WHERE WHAT IT READS IS OF BULK AT MOST 1048576: true; the input reads as it did. -/
def tilesSharesUptoRow : OpenClaim := { program := "ytkmmphkjmamckab", sum := "fd564db948b18ecb25c1f1b120327176ec1ef3b25a87d810a6a9de461a16b7c5", func := "fenestra/fenestrakeep.TilesShares", spec := "tilesShares", inPlace := ["slices.overlaps[[]int]", "slices.overlaps[int]"], apart := false, narrowed := true }
def TilesSharesUptoSaid : Prop := tilesSharesUptoRow.holds Try.pinned (OpenSpec.upto tilesSharesSpec)

/-- 'fenestralaw.GridAll', WHERE WHAT IT READS IS OF BULK AT MOST 1048576: true; the input reads as it did. -/
def gridAllUptoRow : OpenClaim := { program := "ytkmmphkjmamckab", sum := "fd564db948b18ecb25c1f1b120327176ec1ef3b25a87d810a6a9de461a16b7c5", func := "fenestra/fenestralaw.GridAll", spec := "gridAll", unfollowed := true, recurses := true, apart := false, narrowed := true }
def GridAllUptoSaid : Prop := gridAllUptoRow.holds Try.pinned (OpenSpec.upto gridAllSpec)

/-- 'fenestralaw.GridSizes', WHERE WHAT IT READS IS OF BULK AT MOST 1048576: true; the input reads as it did. -/
def gridSizesUptoRow : OpenClaim := { program := "ytkmmphkjmamckab", sum := "fd564db948b18ecb25c1f1b120327176ec1ef3b25a87d810a6a9de461a16b7c5", func := "fenestra/fenestralaw.GridSizes", spec := "gridSizes", unfollowed := true, recurses := true, apart := false, narrowed := true }
def GridSizesUptoSaid : Prop := gridSizesUptoRow.holds Try.pinned (OpenSpec.upto gridSizesSpec)

/-- 'fenestrakeep.GridResizes', WHERE WHAT IT READS IS OF BULK AT MOST 1048576: true; the input reads as it did. -/
def gridResizesUptoRow : OpenClaim := { program := "ytkmmphkjmamckab", sum := "fd564db948b18ecb25c1f1b120327176ec1ef3b25a87d810a6a9de461a16b7c5", func := "fenestra/fenestrakeep.GridResizes", spec := "gridResizes", unfollowed := true, recurses := true, apart := false, narrowed := true }
def GridResizesUptoSaid : Prop := gridResizesUptoRow.holds Try.pinned (OpenSpec.upto gridResizesSpec)

/-- 'fenestralaw.TilesSplits', WHERE WHAT IT READS IS OF BULK AT MOST 1048576: true; the input reads as it did. -/
def tilesSplitsUptoRow : OpenClaim := { program := "ytkmmphkjmamckab", sum := "fd564db948b18ecb25c1f1b120327176ec1ef3b25a87d810a6a9de461a16b7c5", func := "fenestra/fenestralaw.TilesSplits", spec := "tilesSplits", inPlace := ["slices.overlaps[[]int]", "slices.overlaps[int]"], apart := false, narrowed := true }
def TilesSplitsUptoSaid : Prop := tilesSplitsUptoRow.holds Try.pinned (OpenSpec.upto tilesSplitsSpec)

end Rows
end Go.Proofs.Ytkmmphkjmamckab
