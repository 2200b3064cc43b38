/-
  No cell of these rows narrows 'for every input' (looked for: loops, veiled, ifaces, maps, wideKeys, modest, calm, conditions, laid).
  DERIVED. THE GIVEN ROWS OF THIS SEAT. 9 by the template 'for every input the law returns true; each argument reads behind the call as it read before'; 0 by the template 'total and deterministic' (their statements: YtfcholpgebcooaaTotals.lean).
  GIVEN WITH THE SEED: the statements are not yours to turn. If you find one false, say at which input.
  Laid BY PROGRAM, IN A SANDBOX (cutbox-rows.mjs): the forced cells as the released guide's own fill.sh prints them over the translation 14ffdd0bd5c46e45… (all of the seat's roots in one cut). By AI agents, Wed Nov 11 2026. No macro, syntax, notation, axiom, sorry.
-/
import Derived.Test.YtfcholpgebcooaaChecked
import GoSem.Claim
import GoSem.ClaimJoined
import GoSem.ClaimMapViews
import Derived.JoinedTies
import Derived.KernelRfl
namespace Go.Proofs.Ytfcholpgebcooaa
/- THE CELL 'sum', in the pinned program and in every row, IS THE sha256 OF THE DUMP (.gsa) THAT YtfcholpgebcooaaProg.lean LOADS. Nothing in Lean hashes anything: it is a label: what it is worth is what the hold of that sum in a sandbox is worth. -/
noncomputable def Try.pinned : Pinned := { name := "ytfcholpgebcooaa", sum := "14ffdd0bd5c46e45a2cb973cc82be488e117a22449f7706ea278e98a102492bc", checked := Try.checked }
namespace Rows
def none {H : Type} : Left H := { results := [], args := [] }

/-- 'penumbralaw26.RouletteMeans': WHATEVER THE INPUT: true; the input reads as it did. -/
def rouletteMeansSpec : ChangeSpec := { name := "rouletteMeans", fn := fun _ => fun
  | [d1, d2, d3] => { results := [.lit (.bool true)], args := [d1, d2, d3] }
  | _ => none }
def rouletteMeansRow : OpenClaim := { program := "ytfcholpgebcooaa", sum := "14ffdd0bd5c46e45a2cb973cc82be488e117a22449f7706ea278e98a102492bc", func := "penumbra/penumbralaw26.RouletteMeans", spec := "rouletteMeans", unfollowed := true, recurses := true, apart := false }
def RouletteMeansSaid : Prop := rouletteMeansRow.holds Try.pinned (OpenSpec.ofChange rouletteMeansSpec)

/-- ITS FALSE NEIGHBOUR: 'it returns false'. Refute it at one input. -/
def rouletteMeansWrong : ChangeSpec := { name := "rouletteMeans", fn := fun _ => fun
  | [d1, d2, d3] => { results := [.lit (.bool false)], args := [d1, d2, d3] }
  | _ => none }
def RouletteMeansWrongFalsely : Prop := rouletteMeansRow.holds Try.pinned (OpenSpec.ofChange rouletteMeansWrong)

/-- 'penumbralaw43.ToneMakes': WHATEVER THE INPUT: true; the input reads as it did. -/
def toneMakesSpec : ChangeSpec := { name := "toneMakes", fn := fun _ => fun
  | [d1, d2, d3] => { results := [.lit (.bool true)], args := [d1, d2, d3] }
  | _ => none }
def toneMakesRow : OpenClaim := { program := "ytfcholpgebcooaa", sum := "14ffdd0bd5c46e45a2cb973cc82be488e117a22449f7706ea278e98a102492bc", func := "penumbra/penumbralaw43.ToneMakes", spec := "toneMakes", unfollowed := true, recurses := true, apart := false }
def ToneMakesSaid : Prop := toneMakesRow.holds Try.pinned (OpenSpec.ofChange toneMakesSpec)

/-- ITS FALSE NEIGHBOUR: 'it returns false'. Refute it at one input. -/
def toneMakesWrong : ChangeSpec := { name := "toneMakes", fn := fun _ => fun
  | [d1, d2, d3] => { results := [.lit (.bool false)], args := [d1, d2, d3] }
  | _ => none }
def ToneMakesWrongFalsely : Prop := toneMakesRow.holds Try.pinned (OpenSpec.ofChange toneMakesWrong)

/-- 'penumbralaw49.HistShares': WHATEVER THE INPUT: true; the input reads as it did. -/
def histSharesSpec : ChangeSpec := { name := "histShares", fn := fun _ => fun
  | [d] => { results := [.lit (.bool true)], args := [d] }
  | _ => none }
def histSharesRow : OpenClaim := { program := "ytfcholpgebcooaa", sum := "14ffdd0bd5c46e45a2cb973cc82be488e117a22449f7706ea278e98a102492bc", func := "penumbra/penumbralaw49.HistShares", spec := "histShares", unfollowed := true, recurses := true, apart := false }
def HistSharesSaid : Prop := histSharesRow.holds Try.pinned (OpenSpec.ofChange histSharesSpec)

/-- ITS FALSE NEIGHBOUR: 'it returns false'. Refute it at one input. -/
def histSharesWrong : ChangeSpec := { name := "histShares", fn := fun _ => fun
  | [d] => { results := [.lit (.bool false)], args := [d] }
  | _ => none }
def HistSharesWrongFalsely : Prop := histSharesRow.holds Try.pinned (OpenSpec.ofChange histSharesWrong)

/-- 'penumbralaw43.ToneBytes': WHATEVER THE INPUT: true; the input reads as it did. -/
def toneBytesSpec : ChangeSpec := { name := "toneBytes", fn := fun _ => fun
  | [d1, d2, d3] => { results := [.lit (.bool true)], args := [d1, d2, d3] }
  | _ => none }
def toneBytesRow : OpenClaim := { program := "ytfcholpgebcooaa", sum := "14ffdd0bd5c46e45a2cb973cc82be488e117a22449f7706ea278e98a102492bc", func := "penumbra/penumbralaw43.ToneBytes", spec := "toneBytes", inPlace := ["math.Float64frombits"], unfollowed := true, recurses := true, apart := false }
def ToneBytesSaid : Prop := toneBytesRow.holds Try.pinned (OpenSpec.ofChange toneBytesSpec)

/-- ITS FALSE NEIGHBOUR: 'it returns false'. Refute it at one input. -/
def toneBytesWrong : ChangeSpec := { name := "toneBytes", fn := fun _ => fun
  | [d1, d2, d3] => { results := [.lit (.bool false)], args := [d1, d2, d3] }
  | _ => none }
def ToneBytesWrongFalsely : Prop := toneBytesRow.holds Try.pinned (OpenSpec.ofChange toneBytesWrong)

/-- 'penumbralaw49.HistCounts': WHATEVER THE INPUT: true; the input reads as it did. -/
def histCountsSpec : ChangeSpec := { name := "histCounts", fn := fun _ => fun
  | [d1, d2] => { results := [.lit (.bool true)], args := [d1, d2] }
  | _ => none }
def histCountsRow : OpenClaim := { program := "ytfcholpgebcooaa", sum := "14ffdd0bd5c46e45a2cb973cc82be488e117a22449f7706ea278e98a102492bc", func := "penumbra/penumbralaw49.HistCounts", spec := "histCounts", unfollowed := true, recurses := true, apart := false }
def HistCountsSaid : Prop := histCountsRow.holds Try.pinned (OpenSpec.ofChange histCountsSpec)

/-- ITS FALSE NEIGHBOUR: 'it returns false'. Refute it at one input. -/
def histCountsWrong : ChangeSpec := { name := "histCounts", fn := fun _ => fun
  | [d1, d2] => { results := [.lit (.bool false)], args := [d1, d2] }
  | _ => none }
def HistCountsWrongFalsely : Prop := histCountsRow.holds Try.pinned (OpenSpec.ofChange histCountsWrong)

/-- 'penumbralaw49.HistEvens': WHATEVER THE INPUT: true; the input reads as it did. -/
def histEvensSpec : ChangeSpec := { name := "histEvens", fn := fun _ => fun
  | [d] => { results := [.lit (.bool true)], args := [d] }
  | _ => none }
def histEvensRow : OpenClaim := { program := "ytfcholpgebcooaa", sum := "14ffdd0bd5c46e45a2cb973cc82be488e117a22449f7706ea278e98a102492bc", func := "penumbra/penumbralaw49.HistEvens", spec := "histEvens", unfollowed := true, recurses := true, apart := false }
def HistEvensSaid : Prop := histEvensRow.holds Try.pinned (OpenSpec.ofChange histEvensSpec)

/-- ITS FALSE NEIGHBOUR: 'it returns false'. Refute it at one input. -/
def histEvensWrong : ChangeSpec := { name := "histEvens", fn := fun _ => fun
  | [d] => { results := [.lit (.bool false)], args := [d] }
  | _ => none }
def HistEvensWrongFalsely : Prop := histEvensRow.holds Try.pinned (OpenSpec.ofChange histEvensWrong)

/-- 'penumbralaw21.FilmMakes': WHATEVER THE INPUT: true; the input reads as it did. -/
def filmMakesSpec : ChangeSpec := { name := "filmMakes", fn := fun _ => fun
  | [d1, d2] => { results := [.lit (.bool true)], args := [d1, d2] }
  | _ => none }
def filmMakesRow : OpenClaim := { program := "ytfcholpgebcooaa", sum := "14ffdd0bd5c46e45a2cb973cc82be488e117a22449f7706ea278e98a102492bc", func := "penumbra/penumbralaw21.FilmMakes", spec := "filmMakes", unfollowed := true, recurses := true, apart := false }
def FilmMakesSaid : Prop := filmMakesRow.holds Try.pinned (OpenSpec.ofChange filmMakesSpec)

/-- ITS FALSE NEIGHBOUR: 'it returns false'. Refute it at one input. -/
def filmMakesWrong : ChangeSpec := { name := "filmMakes", fn := fun _ => fun
  | [d1, d2] => { results := [.lit (.bool false)], args := [d1, d2] }
  | _ => none }
def FilmMakesWrongFalsely : Prop := filmMakesRow.holds Try.pinned (OpenSpec.ofChange filmMakesWrong)

/-- 'penumbralaw21.FilmTakes': WHATEVER THE INPUT: true; the input reads as it did. -/
def filmTakesSpec : ChangeSpec := { name := "filmTakes", fn := fun _ => fun
  | [d1, d2, d3] => { results := [.lit (.bool true)], args := [d1, d2, d3] }
  | _ => none }
def filmTakesRow : OpenClaim := { program := "ytfcholpgebcooaa", sum := "14ffdd0bd5c46e45a2cb973cc82be488e117a22449f7706ea278e98a102492bc", func := "penumbra/penumbralaw21.FilmTakes", spec := "filmTakes", unfollowed := true, recurses := true, apart := false }
def FilmTakesSaid : Prop := filmTakesRow.holds Try.pinned (OpenSpec.ofChange filmTakesSpec)

/-- ITS FALSE NEIGHBOUR: 'it returns false'. Refute it at one input. -/
def filmTakesWrong : ChangeSpec := { name := "filmTakes", fn := fun _ => fun
  | [d1, d2, d3] => { results := [.lit (.bool false)], args := [d1, d2, d3] }
  | _ => none }
def FilmTakesWrongFalsely : Prop := filmTakesRow.holds Try.pinned (OpenSpec.ofChange filmTakesWrong)

/-- 'penumbralaw21.FilmNone': WHATEVER THE INPUT: true; the input reads as it did. -/
def filmNoneSpec : ChangeSpec := { name := "filmNone", fn := fun _ => fun
  | [d1, d2, d3] => { results := [.lit (.bool true)], args := [d1, d2, d3] }
  | _ => none }
def filmNoneRow : OpenClaim := { program := "ytfcholpgebcooaa", sum := "14ffdd0bd5c46e45a2cb973cc82be488e117a22449f7706ea278e98a102492bc", func := "penumbra/penumbralaw21.FilmNone", spec := "filmNone", unfollowed := true, recurses := true, apart := false }
def FilmNoneSaid : Prop := filmNoneRow.holds Try.pinned (OpenSpec.ofChange filmNoneSpec)

/-- ITS FALSE NEIGHBOUR: 'it returns false'. Refute it at one input. -/
def filmNoneWrong : ChangeSpec := { name := "filmNone", fn := fun _ => fun
  | [d1, d2, d3] => { results := [.lit (.bool false)], args := [d1, d2, d3] }
  | _ => none }
def FilmNoneWrongFalsely : Prop := filmNoneRow.holds Try.pinned (OpenSpec.ofChange filmNoneWrong)

/- THE SECOND FORM. 'bulk': how many values and letters a reading holds, each counted each time it is reached (what is shared counts as often as it is met; a slice's spare places count too). A statement '..UptoSaid' is the law's where the arguments, and the package variables that the reading takes, are together of bulk at most 1048576: NARROWER than '..Said'. Prove '..Said' where nothing that the law and all that it calls make is longer than what came in: it says more and counts as full. Else prove '..UptoSaid'. A law counts once. -/
mutual
def uptoBulk {H : Type} : DataW H → Nat
  | .lit (.string bytes) => bytes.length + 1
  | .lit _ => 1
  | .nil => 1
  | .ptr d => uptoBulk d + 1
  | .slice elems spare => uptoBulkAll elems + uptoBulkAll spare + 1
  | .agg parts => uptoBulkAll parts + 1
  | .iface _ d => uptoBulk d + 1
  | .map entries => uptoBulkEntries entries + 1
  | .held _ => 1
def uptoBulkAll {H : Type} : List (DataW H) → Nat
  | [] => 0
  | d :: r => uptoBulk d + uptoBulkAll r
def uptoBulkEntries {H : Type} : List (Lit × DataW H) → Nat
  | [] => 0
  | x :: r => uptoBulkEntry x + uptoBulkEntries r
def uptoBulkEntry {H : Type} : Lit × DataW H → Nat
  | (.string bytes, d) => bytes.length + uptoBulk d + 1
  | (_, d) => uptoBulk d + 1
 end
def uptoSmall : (H : Type) → List (DataW H) → Bool := fun _ ds => decide (uptoBulkAll ds ≤ 1048576)
def OpenSpec.upto (s : _root_.Go.ChangeSpec) : _root_.Go.OpenSpec := { _root_.Go.OpenSpec.ofChange s with cond := some uptoSmall }

/-- 'penumbralaw26.RouletteMeans', WHERE WHAT IT READS IS OF BULK AT MOST 1048576: true; the input reads as it did. -/
def rouletteMeansUptoRow : OpenClaim := { program := "ytfcholpgebcooaa", sum := "14ffdd0bd5c46e45a2cb973cc82be488e117a22449f7706ea278e98a102492bc", func := "penumbra/penumbralaw26.RouletteMeans", spec := "rouletteMeans", unfollowed := true, recurses := true, apart := false, narrowed := true }
def RouletteMeansUptoSaid : Prop := rouletteMeansUptoRow.holds Try.pinned (OpenSpec.upto rouletteMeansSpec)

/-- 'penumbralaw43.ToneMakes', WHERE WHAT IT READS IS OF BULK AT MOST 1048576: true; the input reads as it did. -/
def toneMakesUptoRow : OpenClaim := { program := "ytfcholpgebcooaa", sum := "14ffdd0bd5c46e45a2cb973cc82be488e117a22449f7706ea278e98a102492bc", func := "penumbra/penumbralaw43.ToneMakes", spec := "toneMakes", unfollowed := true, recurses := true, apart := false, narrowed := true }
def ToneMakesUptoSaid : Prop := toneMakesUptoRow.holds Try.pinned (OpenSpec.upto toneMakesSpec)

/-- 'penumbralaw49.HistShares', WHERE WHAT IT READS IS OF BULK AT MOST 1048576: true; the input reads as it did. -/
def histSharesUptoRow : OpenClaim := { program := "ytfcholpgebcooaa", sum := "14ffdd0bd5c46e45a2cb973cc82be488e117a22449f7706ea278e98a102492bc", func := "penumbra/penumbralaw49.HistShares", spec := "histShares", unfollowed := true, recurses := true, apart := false, narrowed := true }
def HistSharesUptoSaid : Prop := histSharesUptoRow.holds Try.pinned (OpenSpec.upto histSharesSpec)

/-- 'penumbralaw43.ToneBytes', WHERE WHAT IT READS IS OF BULK AT MOST 1048576: true; the input reads as it did. -/
def toneBytesUptoRow : OpenClaim := { program := "ytfcholpgebcooaa", sum := "14ffdd0bd5c46e45a2cb973cc82be488e117a22449f7706ea278e98a102492bc", func := "penumbra/penumbralaw43.ToneBytes", spec := "toneBytes", inPlace := ["math.Float64frombits"], unfollowed := true, recurses := true, apart := false, narrowed := true }
def ToneBytesUptoSaid : Prop := toneBytesUptoRow.holds Try.pinned (OpenSpec.upto toneBytesSpec)

/-- 'penumbralaw49.HistCounts', WHERE WHAT IT READS IS OF BULK AT MOST 1048576: true; the input reads as it did. -/
def histCountsUptoRow : OpenClaim := { program := "ytfcholpgebcooaa", sum := "14ffdd0bd5c46e45a2cb973cc82be488e117a22449f7706ea278e98a102492bc", func := "penumbra/penumbralaw49.HistCounts", spec := "histCounts", unfollowed := true, recurses := true, apart := false, narrowed := true }
def HistCountsUptoSaid : Prop := histCountsUptoRow.holds Try.pinned (OpenSpec.upto histCountsSpec)

/-- 'penumbralaw49.HistEvens', WHERE WHAT IT READS IS OF BULK AT MOST 1048576: true; the input reads as it did. -/
def histEvensUptoRow : OpenClaim := { program := "ytfcholpgebcooaa", sum := "14ffdd0bd5c46e45a2cb973cc82be488e117a22449f7706ea278e98a102492bc", func := "penumbra/penumbralaw49.HistEvens", spec := "histEvens", unfollowed := true, recurses := true, apart := false, narrowed := true }
def HistEvensUptoSaid : Prop := histEvensUptoRow.holds Try.pinned (OpenSpec.upto histEvensSpec)

/-- 'penumbralaw21.FilmMakes', WHERE WHAT IT READS IS OF BULK AT MOST 1048576: true; the input reads as it did. -/
def filmMakesUptoRow : OpenClaim := { program := "ytfcholpgebcooaa", sum := "14ffdd0bd5c46e45a2cb973cc82be488e117a22449f7706ea278e98a102492bc", func := "penumbra/penumbralaw21.FilmMakes", spec := "filmMakes", unfollowed := true, recurses := true, apart := false, narrowed := true }
def FilmMakesUptoSaid : Prop := filmMakesUptoRow.holds Try.pinned (OpenSpec.upto filmMakesSpec)

/-- 'penumbralaw21.FilmTakes', WHERE WHAT IT READS IS OF BULK AT MOST 1048576: true; the input reads as it did. -/
def filmTakesUptoRow : OpenClaim := { program := "ytfcholpgebcooaa", sum := "14ffdd0bd5c46e45a2cb973cc82be488e117a22449f7706ea278e98a102492bc", func := "penumbra/penumbralaw21.FilmTakes", spec := "filmTakes", unfollowed := true, recurses := true, apart := false, narrowed := true }
def FilmTakesUptoSaid : Prop := filmTakesUptoRow.holds Try.pinned (OpenSpec.upto filmTakesSpec)

/-- 'penumbralaw21.FilmNone', WHERE WHAT IT READS IS OF BULK AT MOST 1048576: true; the input reads as it did. -/
def filmNoneUptoRow : OpenClaim := { program := "ytfcholpgebcooaa", sum := "14ffdd0bd5c46e45a2cb973cc82be488e117a22449f7706ea278e98a102492bc", func := "penumbra/penumbralaw21.FilmNone", spec := "filmNone", unfollowed := true, recurses := true, apart := false, narrowed := true }
def FilmNoneUptoSaid : Prop := filmNoneUptoRow.holds Try.pinned (OpenSpec.upto filmNoneSpec)

end Rows
end Go.Proofs.Ytfcholpgebcooaa
