/-
  No cell of these rows narrows 'for every input' (looked for: loops, veiled, ifaces, maps, wideKeys, modest, calm, conditions, laid).
  DERIVED. THE GIVEN ROWS OF THIS SEAT. 4 by the template 'for every input the law returns true; each argument reads behind the call as it read before'; 0 by the template 'total and deterministic' (their statements: YtlhdbcjlmkglkaaGreatTotals.lean).
  GIVEN WITH THE SEED: the statements are not yours to turn. If you find one false, say at which input.
  Laid BY PROGRAM, IN A SANDBOX (cutbox-rows.mjs): the forced cells as the released guide's own fill.sh prints them over the translation 69fd8112f435d224… (all of the seat's roots in one cut). By AI agents, Wed Nov 11 2026. No macro, syntax, notation, axiom, sorry.
-/
import Derived.Test.YtlhdbcjlmkglkaaGreatChecked
import GoSem.Claim
import GoSem.ClaimJoined
import GoSem.ClaimMapViews
import Derived.JoinedTies
import Derived.KernelRfl
namespace Go.Proofs.YtlhdbcjlmkglkaaGreat
/- THE CELL 'sum', in the pinned program and in every row, IS THE sha256 OF THE DUMP (.gsa) THAT YtlhdbcjlmkglkaaGreatProg.lean LOADS. Nothing in Lean hashes anything: it is a label: what it is worth is what the hold of that sum in a sandbox is worth. -/
noncomputable def Tryz.pinned : Pinned := { name := "ytlhdbcjlmkglkaagreat", sum := "69fd8112f435d2247ddda113c33a0163163c87254d9bf6cb2c2266a66d8f9314", checked := Tryz.checked }
namespace Rows
def none {H : Type} : Left H := { results := [], args := [] }

/-- 'lombardlaw21.QuoteGets': WHATEVER THE INPUT: true; the input reads as it did. -/
def quoteGetsSpec : ChangeSpec := { name := "quoteGets", fn := fun _ => fun
  | [d1, d2, d3, d4] => { results := [.lit (.bool true)], args := [d1, d2, d3, d4] }
  | _ => none }
def quoteGetsRow : OpenClaim := { program := "ytlhdbcjlmkglkaagreat", sum := "69fd8112f435d2247ddda113c33a0163163c87254d9bf6cb2c2266a66d8f9314", func := "lombard/lombardlaw21.QuoteGets", spec := "quoteGets", unfollowed := true, recurses := true, apart := false }
def QuoteGetsSaid : Prop := quoteGetsRow.holds Tryz.pinned (OpenSpec.ofChange quoteGetsSpec)

/-- ITS FALSE NEIGHBOUR: 'it returns false'. Refute it at one input. -/
def quoteGetsWrong : ChangeSpec := { name := "quoteGets", fn := fun _ => fun
  | [d1, d2, d3, d4] => { results := [.lit (.bool false)], args := [d1, d2, d3, d4] }
  | _ => none }
def QuoteGetsWrongFalsely : Prop := quoteGetsRow.holds Tryz.pinned (OpenSpec.ofChange quoteGetsWrong)

/-- 'lombardlaw22.MatchPuts': WHATEVER THE INPUT: true; the input reads as it did. -/
def matchPutsSpec : ChangeSpec := { name := "matchPuts", fn := fun _ => fun
  | [d] => { results := [.lit (.bool true)], args := [d] }
  | _ => none }
def matchPutsRow : OpenClaim := { program := "ytlhdbcjlmkglkaagreat", sum := "69fd8112f435d2247ddda113c33a0163163c87254d9bf6cb2c2266a66d8f9314", func := "lombard/lombardlaw22.MatchPuts", spec := "matchPuts", unfollowed := true, recurses := true, apart := false }
def MatchPutsSaid : Prop := matchPutsRow.holds Tryz.pinned (OpenSpec.ofChange matchPutsSpec)

/-- ITS FALSE NEIGHBOUR: 'it returns false'. Refute it at one input. -/
def matchPutsWrong : ChangeSpec := { name := "matchPuts", fn := fun _ => fun
  | [d] => { results := [.lit (.bool false)], args := [d] }
  | _ => none }
def MatchPutsWrongFalsely : Prop := matchPutsRow.holds Tryz.pinned (OpenSpec.ofChange matchPutsWrong)

/-- 'lombardlaw21.QuotePlays': WHATEVER THE INPUT: true; the input reads as it did. -/
def quotePlaysSpec : ChangeSpec := { name := "quotePlays", fn := fun _ => fun
  | [d] => { results := [.lit (.bool true)], args := [d] }
  | _ => none }
def quotePlaysRow : OpenClaim := { program := "ytlhdbcjlmkglkaagreat", sum := "69fd8112f435d2247ddda113c33a0163163c87254d9bf6cb2c2266a66d8f9314", func := "lombard/lombardlaw21.QuotePlays", spec := "quotePlays", unfollowed := true, recurses := true, apart := false }
def QuotePlaysSaid : Prop := quotePlaysRow.holds Tryz.pinned (OpenSpec.ofChange quotePlaysSpec)

/-- ITS FALSE NEIGHBOUR: 'it returns false'. Refute it at one input. -/
def quotePlaysWrong : ChangeSpec := { name := "quotePlays", fn := fun _ => fun
  | [d] => { results := [.lit (.bool false)], args := [d] }
  | _ => none }
def QuotePlaysWrongFalsely : Prop := quotePlaysRow.holds Tryz.pinned (OpenSpec.ofChange quotePlaysWrong)

/-- 'lombardlaw21.QuoteApart': WHATEVER THE INPUT: true; the input reads as it did. -/
def quoteApartSpec : ChangeSpec := { name := "quoteApart", fn := fun _ => fun
  | [d1, d2] => { results := [.lit (.bool true)], args := [d1, d2] }
  | _ => none }
def quoteApartRow : OpenClaim := { program := "ytlhdbcjlmkglkaagreat", sum := "69fd8112f435d2247ddda113c33a0163163c87254d9bf6cb2c2266a66d8f9314", func := "lombard/lombardlaw21.QuoteApart", spec := "quoteApart", unfollowed := true, recurses := true, apart := false }
def QuoteApartSaid : Prop := quoteApartRow.holds Tryz.pinned (OpenSpec.ofChange quoteApartSpec)

/-- ITS FALSE NEIGHBOUR: 'it returns false'. Refute it at one input. -/
def quoteApartWrong : ChangeSpec := { name := "quoteApart", fn := fun _ => fun
  | [d1, d2] => { results := [.lit (.bool false)], args := [d1, d2] }
  | _ => none }
def QuoteApartWrongFalsely : Prop := quoteApartRow.holds Tryz.pinned (OpenSpec.ofChange quoteApartWrong)

/- THE SECOND FORM. 'bulk': how many values and letters a reading holds, each counted each time it is reached (what is shared counts as often as it is met; a slice's spare places count too). A statement '..UptoSaid' is the law's where the arguments, and the package variables that the reading takes, are together of bulk at most 1048576: NARROWER than '..Said'. Prove '..Said' where nothing that the law and all that it calls make is longer than what came in: it says more and counts as full. Else prove '..UptoSaid'. A law counts once. -/
mutual
def uptoBulk {H : Type} : DataW H → Nat
  | .lit (.string bytes) => bytes.length + 1
  | .lit _ => 1
  | .nil => 1
  | .ptr d => uptoBulk d + 1
  | .slice elems spare => uptoBulkAll elems + uptoBulkAll spare + 1
  | .agg parts => uptoBulkAll parts + 1
  | .iface _ d => uptoBulk d + 1
  | .map entries => uptoBulkEntries entries + 1
  | .held _ => 1
def uptoBulkAll {H : Type} : List (DataW H) → Nat
  | [] => 0
  | d :: r => uptoBulk d + uptoBulkAll r
def uptoBulkEntries {H : Type} : List (Lit × DataW H) → Nat
  | [] => 0
  | x :: r => uptoBulkEntry x + uptoBulkEntries r
def uptoBulkEntry {H : Type} : Lit × DataW H → Nat
  | (.string bytes, d) => bytes.length + uptoBulk d + 1
  | (_, d) => uptoBulk d + 1
 end
def uptoSmall : (H : Type) → List (DataW H) → Bool := fun _ ds => decide (uptoBulkAll ds ≤ 1048576)
def OpenSpec.upto (s : _root_.Go.ChangeSpec) : _root_.Go.OpenSpec := { _root_.Go.OpenSpec.ofChange s with cond := some uptoSmall }

/-- 'lombardlaw21.QuoteGets', WHERE WHAT IT READS IS OF BULK AT MOST 1048576: true; the input reads as it did. -/
def quoteGetsUptoRow : OpenClaim := { program := "ytlhdbcjlmkglkaagreat", sum := "69fd8112f435d2247ddda113c33a0163163c87254d9bf6cb2c2266a66d8f9314", func := "lombard/lombardlaw21.QuoteGets", spec := "quoteGets", unfollowed := true, recurses := true, apart := false, narrowed := true }
def QuoteGetsUptoSaid : Prop := quoteGetsUptoRow.holds Tryz.pinned (OpenSpec.upto quoteGetsSpec)

/-- 'lombardlaw22.MatchPuts', WHERE WHAT IT READS IS OF BULK AT MOST 1048576: true; the input reads as it did. -/
def matchPutsUptoRow : OpenClaim := { program := "ytlhdbcjlmkglkaagreat", sum := "69fd8112f435d2247ddda113c33a0163163c87254d9bf6cb2c2266a66d8f9314", func := "lombard/lombardlaw22.MatchPuts", spec := "matchPuts", unfollowed := true, recurses := true, apart := false, narrowed := true }
def MatchPutsUptoSaid : Prop := matchPutsUptoRow.holds Tryz.pinned (OpenSpec.upto matchPutsSpec)

/-- 'lombardlaw21.QuotePlays', WHERE WHAT IT READS IS OF BULK AT MOST 1048576: true; the input reads as it did. -/
def quotePlaysUptoRow : OpenClaim := { program := "ytlhdbcjlmkglkaagreat", sum := "69fd8112f435d2247ddda113c33a0163163c87254d9bf6cb2c2266a66d8f9314", func := "lombard/lombardlaw21.QuotePlays", spec := "quotePlays", unfollowed := true, recurses := true, apart := false, narrowed := true }
def QuotePlaysUptoSaid : Prop := quotePlaysUptoRow.holds Tryz.pinned (OpenSpec.upto quotePlaysSpec)

/-- 'lombardlaw21.QuoteApart', WHERE WHAT IT READS IS OF BULK AT MOST 1048576: true; the input reads as it did. -/
def quoteApartUptoRow : OpenClaim := { program := "ytlhdbcjlmkglkaagreat", sum := "69fd8112f435d2247ddda113c33a0163163c87254d9bf6cb2c2266a66d8f9314", func := "lombard/lombardlaw21.QuoteApart", spec := "quoteApart", unfollowed := true, recurses := true, apart := false, narrowed := true }
def QuoteApartUptoSaid : Prop := quoteApartUptoRow.holds Tryz.pinned (OpenSpec.upto quoteApartSpec)

end Rows
end Go.Proofs.YtlhdbcjlmkglkaaGreat
