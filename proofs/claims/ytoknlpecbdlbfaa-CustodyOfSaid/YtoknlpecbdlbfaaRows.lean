/-
  No cell of these rows narrows 'for every input' (looked for: loops, veiled, ifaces, maps, wideKeys, modest, calm, conditions, laid).
  DERIVED. THE GIVEN ROWS OF THIS SEAT. 12 by the template 'for every input the law returns true; each argument reads behind the call as it read before'; 0 by the template 'total and deterministic' (their statements: YtoknlpecbdlbfaaTotals.lean).
  GIVEN WITH THE SEED: the statements are not yours to turn. If you find one false, say at which input.
  Laid BY PROGRAM, IN A SANDBOX (cutbox-rows.mjs): the forced cells as the released guide's own fill.sh prints them over the translation 485f8574c9eb6b8a… (all of the seat's roots in one cut). By AI agents, Wed Nov 11 2026. No macro, syntax, notation, axiom, sorry.
-/
import Derived.Test.YtoknlpecbdlbfaaChecked
import GoSem.Claim
import GoSem.ClaimJoined
import GoSem.ClaimMapViews
import Derived.JoinedTies
import Derived.KernelRfl
namespace Go.Proofs.Ytoknlpecbdlbfaa
/- THE CELL 'sum', in the pinned program and in every row, IS THE sha256 OF THE DUMP (.gsa) THAT YtoknlpecbdlbfaaProg.lean LOADS. Nothing in Lean hashes anything: it is a label: what it is worth is what the hold of that sum in a sandbox is worth. -/
noncomputable def Try.pinned : Pinned := { name := "ytoknlpecbdlbfaa", sum := "485f8574c9eb6b8a875128d6d6a8436a9990346a549af98ab6fc5adcde7a0c22", checked := Try.checked }
namespace Rows
def none {H : Type} : Left H := { results := [], args := [] }

/-- 'lombardlaw11.LedgerPosts': WHATEVER THE INPUT: true; the input reads as it did. -/
def ledgerPostsSpec : ChangeSpec := { name := "ledgerPosts", fn := fun _ => fun
  | [d] => { results := [.lit (.bool true)], args := [d] }
  | _ => none }
def ledgerPostsRow : OpenClaim := { program := "ytoknlpecbdlbfaa", sum := "485f8574c9eb6b8a875128d6d6a8436a9990346a549af98ab6fc5adcde7a0c22", func := "lombard/lombardlaw11.LedgerPosts", spec := "ledgerPosts", unfollowed := true, recurses := true, plainKeys := false, apart := false }
def LedgerPostsSaid : Prop := ledgerPostsRow.holds Try.pinned (OpenSpec.ofChange ledgerPostsSpec)

/-- ITS FALSE NEIGHBOUR: 'it returns false'. Refute it at one input. -/
def ledgerPostsWrong : ChangeSpec := { name := "ledgerPosts", fn := fun _ => fun
  | [d] => { results := [.lit (.bool false)], args := [d] }
  | _ => none }
def LedgerPostsWrongFalsely : Prop := ledgerPostsRow.holds Try.pinned (OpenSpec.ofChange ledgerPostsWrong)

/-- 'lombardlaw11.LedgerWhole': WHATEVER THE INPUT: true; the input reads as it did. -/
def ledgerWholeSpec : ChangeSpec := { name := "ledgerWhole", fn := fun _ => fun
  | [d] => { results := [.lit (.bool true)], args := [d] }
  | _ => none }
def ledgerWholeRow : OpenClaim := { program := "ytoknlpecbdlbfaa", sum := "485f8574c9eb6b8a875128d6d6a8436a9990346a549af98ab6fc5adcde7a0c22", func := "lombard/lombardlaw11.LedgerWhole", spec := "ledgerWhole", unfollowed := true, recurses := true, plainKeys := false, apart := false }
def LedgerWholeSaid : Prop := ledgerWholeRow.holds Try.pinned (OpenSpec.ofChange ledgerWholeSpec)

/-- ITS FALSE NEIGHBOUR: 'it returns false'. Refute it at one input. -/
def ledgerWholeWrong : ChangeSpec := { name := "ledgerWhole", fn := fun _ => fun
  | [d] => { results := [.lit (.bool false)], args := [d] }
  | _ => none }
def LedgerWholeWrongFalsely : Prop := ledgerWholeRow.holds Try.pinned (OpenSpec.ofChange ledgerWholeWrong)

/-- 'lombardlaw11.LedgerBack': WHATEVER THE INPUT: true; the input reads as it did. -/
def ledgerBackSpec : ChangeSpec := { name := "ledgerBack", fn := fun _ => fun
  | [d1, d2] => { results := [.lit (.bool true)], args := [d1, d2] }
  | _ => none }
def ledgerBackRow : OpenClaim := { program := "ytoknlpecbdlbfaa", sum := "485f8574c9eb6b8a875128d6d6a8436a9990346a549af98ab6fc5adcde7a0c22", func := "lombard/lombardlaw11.LedgerBack", spec := "ledgerBack", inPlace := ["maps.clone"], unfollowed := true, recurses := true, plainKeys := false, apart := false }
def LedgerBackSaid : Prop := ledgerBackRow.holds Try.pinned (OpenSpec.ofChange ledgerBackSpec)

/-- ITS FALSE NEIGHBOUR: 'it returns false'. Refute it at one input. -/
def ledgerBackWrong : ChangeSpec := { name := "ledgerBack", fn := fun _ => fun
  | [d1, d2] => { results := [.lit (.bool false)], args := [d1, d2] }
  | _ => none }
def LedgerBackWrongFalsely : Prop := ledgerBackRow.holds Try.pinned (OpenSpec.ofChange ledgerBackWrong)

/-- 'lombardlaw11.LedgerTells': WHATEVER THE INPUT: true; the input reads as it did. -/
def ledgerTellsSpec : ChangeSpec := { name := "ledgerTells", fn := fun _ => fun
  | [d1, d2, d3, d4] => { results := [.lit (.bool true)], args := [d1, d2, d3, d4] }
  | _ => none }
def ledgerTellsRow : OpenClaim := { program := "ytoknlpecbdlbfaa", sum := "485f8574c9eb6b8a875128d6d6a8436a9990346a549af98ab6fc5adcde7a0c22", func := "lombard/lombardlaw11.LedgerTells", spec := "ledgerTells", unfollowed := true, recurses := true, plainKeys := false, apart := false }
def LedgerTellsSaid : Prop := ledgerTellsRow.holds Try.pinned (OpenSpec.ofChange ledgerTellsSpec)

/-- ITS FALSE NEIGHBOUR: 'it returns false'. Refute it at one input. -/
def ledgerTellsWrong : ChangeSpec := { name := "ledgerTells", fn := fun _ => fun
  | [d1, d2, d3, d4] => { results := [.lit (.bool false)], args := [d1, d2, d3, d4] }
  | _ => none }
def LedgerTellsWrongFalsely : Prop := ledgerTellsRow.holds Try.pinned (OpenSpec.ofChange ledgerTellsWrong)

/-- 'lombardlaw11.LedgerNobody': WHATEVER THE INPUT: true; the input reads as it did. -/
def ledgerNobodySpec : ChangeSpec := { name := "ledgerNobody", fn := fun _ => fun
  | [d1, d2] => { results := [.lit (.bool true)], args := [d1, d2] }
  | _ => none }
def ledgerNobodyRow : OpenClaim := { program := "ytoknlpecbdlbfaa", sum := "485f8574c9eb6b8a875128d6d6a8436a9990346a549af98ab6fc5adcde7a0c22", func := "lombard/lombardlaw11.LedgerNobody", spec := "ledgerNobody", inPlace := ["maps.clone"], unfollowed := true, recurses := true, plainKeys := false, apart := false }
def LedgerNobodySaid : Prop := ledgerNobodyRow.holds Try.pinned (OpenSpec.ofChange ledgerNobodySpec)

/-- ITS FALSE NEIGHBOUR: 'it returns false'. Refute it at one input. -/
def ledgerNobodyWrong : ChangeSpec := { name := "ledgerNobody", fn := fun _ => fun
  | [d1, d2] => { results := [.lit (.bool false)], args := [d1, d2] }
  | _ => none }
def LedgerNobodyWrongFalsely : Prop := ledgerNobodyRow.holds Try.pinned (OpenSpec.ofChange ledgerNobodyWrong)

/-- 'lombardlaw12.CustodyPlays': WHATEVER THE INPUT: true; the input reads as it did. -/
def custodyPlaysSpec : ChangeSpec := { name := "custodyPlays", fn := fun _ => fun
  | [d] => { results := [.lit (.bool true)], args := [d] }
  | _ => none }
def custodyPlaysRow : OpenClaim := { program := "ytoknlpecbdlbfaa", sum := "485f8574c9eb6b8a875128d6d6a8436a9990346a549af98ab6fc5adcde7a0c22", func := "lombard/lombardlaw12.CustodyPlays", spec := "custodyPlays", unfollowed := true, recurses := true, plainKeys := false, apart := false }
def CustodyPlaysSaid : Prop := custodyPlaysRow.holds Try.pinned (OpenSpec.ofChange custodyPlaysSpec)

/-- ITS FALSE NEIGHBOUR: 'it returns false'. Refute it at one input. -/
def custodyPlaysWrong : ChangeSpec := { name := "custodyPlays", fn := fun _ => fun
  | [d] => { results := [.lit (.bool false)], args := [d] }
  | _ => none }
def CustodyPlaysWrongFalsely : Prop := custodyPlaysRow.holds Try.pinned (OpenSpec.ofChange custodyPlaysWrong)

/-- 'lombardlaw12.CustodyOnce': WHATEVER THE INPUT: true; the input reads as it did. -/
def custodyOnceSpec : ChangeSpec := { name := "custodyOnce", fn := fun _ => fun
  | [d1, d2, d3, d4, d5] => { results := [.lit (.bool true)], args := [d1, d2, d3, d4, d5] }
  | _ => none }
def custodyOnceRow : OpenClaim := { program := "ytoknlpecbdlbfaa", sum := "485f8574c9eb6b8a875128d6d6a8436a9990346a549af98ab6fc5adcde7a0c22", func := "lombard/lombardlaw12.CustodyOnce", spec := "custodyOnce", unfollowed := true, recurses := true, plainKeys := false, apart := false }
def CustodyOnceSaid : Prop := custodyOnceRow.holds Try.pinned (OpenSpec.ofChange custodyOnceSpec)

/-- ITS FALSE NEIGHBOUR: 'it returns false'. Refute it at one input. -/
def custodyOnceWrong : ChangeSpec := { name := "custodyOnce", fn := fun _ => fun
  | [d1, d2, d3, d4, d5] => { results := [.lit (.bool false)], args := [d1, d2, d3, d4, d5] }
  | _ => none }
def CustodyOnceWrongFalsely : Prop := custodyOnceRow.holds Try.pinned (OpenSpec.ofChange custodyOnceWrong)

/-- 'lombardlaw11.LedgerOf': WHATEVER THE INPUT: true; the input reads as it did. -/
def ledgerOfSpec : ChangeSpec := { name := "ledgerOf", fn := fun _ => fun
  | [d] => { results := [.lit (.bool true)], args := [d] }
  | _ => none }
def ledgerOfRow : OpenClaim := { program := "ytoknlpecbdlbfaa", sum := "485f8574c9eb6b8a875128d6d6a8436a9990346a549af98ab6fc5adcde7a0c22", func := "lombard/lombardlaw11.LedgerOf", spec := "ledgerOf", unfollowed := true, recurses := true, plainKeys := false, apart := false }
def LedgerOfSaid : Prop := ledgerOfRow.holds Try.pinned (OpenSpec.ofChange ledgerOfSpec)

/-- ITS FALSE NEIGHBOUR: 'it returns false'. Refute it at one input. -/
def ledgerOfWrong : ChangeSpec := { name := "ledgerOf", fn := fun _ => fun
  | [d] => { results := [.lit (.bool false)], args := [d] }
  | _ => none }
def LedgerOfWrongFalsely : Prop := ledgerOfRow.holds Try.pinned (OpenSpec.ofChange ledgerOfWrong)

/-- 'lombardlaw12.CustodyWhole': WHATEVER THE INPUT: true; the input reads as it did. -/
def custodyWholeSpec : ChangeSpec := { name := "custodyWhole", fn := fun _ => fun
  | [d] => { results := [.lit (.bool true)], args := [d] }
  | _ => none }
def custodyWholeRow : OpenClaim := { program := "ytoknlpecbdlbfaa", sum := "485f8574c9eb6b8a875128d6d6a8436a9990346a549af98ab6fc5adcde7a0c22", func := "lombard/lombardlaw12.CustodyWhole", spec := "custodyWhole", unfollowed := true, recurses := true, plainKeys := false, apart := false }
def CustodyWholeSaid : Prop := custodyWholeRow.holds Try.pinned (OpenSpec.ofChange custodyWholeSpec)

/-- ITS FALSE NEIGHBOUR: 'it returns false'. Refute it at one input. -/
def custodyWholeWrong : ChangeSpec := { name := "custodyWhole", fn := fun _ => fun
  | [d] => { results := [.lit (.bool false)], args := [d] }
  | _ => none }
def CustodyWholeWrongFalsely : Prop := custodyWholeRow.holds Try.pinned (OpenSpec.ofChange custodyWholeWrong)

/-- 'lombardlaw12.CustodyTells': WHATEVER THE INPUT: true; the input reads as it did. -/
def custodyTellsSpec : ChangeSpec := { name := "custodyTells", fn := fun _ => fun
  | [d1, d2, d3, d4] => { results := [.lit (.bool true)], args := [d1, d2, d3, d4] }
  | _ => none }
def custodyTellsRow : OpenClaim := { program := "ytoknlpecbdlbfaa", sum := "485f8574c9eb6b8a875128d6d6a8436a9990346a549af98ab6fc5adcde7a0c22", func := "lombard/lombardlaw12.CustodyTells", spec := "custodyTells", unfollowed := true, recurses := true, plainKeys := false, apart := false }
def CustodyTellsSaid : Prop := custodyTellsRow.holds Try.pinned (OpenSpec.ofChange custodyTellsSpec)

/-- ITS FALSE NEIGHBOUR: 'it returns false'. Refute it at one input. -/
def custodyTellsWrong : ChangeSpec := { name := "custodyTells", fn := fun _ => fun
  | [d1, d2, d3, d4] => { results := [.lit (.bool false)], args := [d1, d2, d3, d4] }
  | _ => none }
def CustodyTellsWrongFalsely : Prop := custodyTellsRow.holds Try.pinned (OpenSpec.ofChange custodyTellsWrong)

/-- 'lombardlaw12.CustodyNobody': WHATEVER THE INPUT: true; the input reads as it did. -/
def custodyNobodySpec : ChangeSpec := { name := "custodyNobody", fn := fun _ => fun
  | [d] => { results := [.lit (.bool true)], args := [d] }
  | _ => none }
def custodyNobodyRow : OpenClaim := { program := "ytoknlpecbdlbfaa", sum := "485f8574c9eb6b8a875128d6d6a8436a9990346a549af98ab6fc5adcde7a0c22", func := "lombard/lombardlaw12.CustodyNobody", spec := "custodyNobody", inPlace := ["maps.clone"], unfollowed := true, recurses := true, plainKeys := false, apart := false }
def CustodyNobodySaid : Prop := custodyNobodyRow.holds Try.pinned (OpenSpec.ofChange custodyNobodySpec)

/-- ITS FALSE NEIGHBOUR: 'it returns false'. Refute it at one input. -/
def custodyNobodyWrong : ChangeSpec := { name := "custodyNobody", fn := fun _ => fun
  | [d] => { results := [.lit (.bool false)], args := [d] }
  | _ => none }
def CustodyNobodyWrongFalsely : Prop := custodyNobodyRow.holds Try.pinned (OpenSpec.ofChange custodyNobodyWrong)

/-- 'lombardlaw12.CustodyOf': WHATEVER THE INPUT: true; the input reads as it did. -/
def custodyOfSpec : ChangeSpec := { name := "custodyOf", fn := fun _ => fun
  | [d] => { results := [.lit (.bool true)], args := [d] }
  | _ => none }
def custodyOfRow : OpenClaim := { program := "ytoknlpecbdlbfaa", sum := "485f8574c9eb6b8a875128d6d6a8436a9990346a549af98ab6fc5adcde7a0c22", func := "lombard/lombardlaw12.CustodyOf", spec := "custodyOf", inPlace := ["maps.clone"], unfollowed := true, recurses := true, plainKeys := false, apart := false }
def CustodyOfSaid : Prop := custodyOfRow.holds Try.pinned (OpenSpec.ofChange custodyOfSpec)

/-- ITS FALSE NEIGHBOUR: 'it returns false'. Refute it at one input. -/
def custodyOfWrong : ChangeSpec := { name := "custodyOf", fn := fun _ => fun
  | [d] => { results := [.lit (.bool false)], args := [d] }
  | _ => none }
def CustodyOfWrongFalsely : Prop := custodyOfRow.holds Try.pinned (OpenSpec.ofChange custodyOfWrong)

/- THE SECOND FORM. 'bulk': how many values and letters a reading holds, each counted each time it is reached (what is shared counts as often as it is met; a slice's spare places count too). A statement '..UptoSaid' is the law's where the arguments, and the package variables that the reading takes, are together of bulk at most 1048576: NARROWER than '..Said'. Prove '..Said' where nothing that the law and all that it calls make is longer than what came in: it says more and counts as full. Else prove '..UptoSaid'. A law counts once. -/
mutual
def uptoBulk {H : Type} : DataW H → Nat
  | .lit (.string bytes) => bytes.length + 1
  | .lit _ => 1
  | .nil => 1
  | .ptr d => uptoBulk d + 1
  | .slice elems spare => uptoBulkAll elems + uptoBulkAll spare + 1
  | .agg parts => uptoBulkAll parts + 1
  | .iface _ d => uptoBulk d + 1
  | .map entries => uptoBulkEntries entries + 1
  | .held _ => 1
def uptoBulkAll {H : Type} : List (DataW H) → Nat
  | [] => 0
  | d :: r => uptoBulk d + uptoBulkAll r
def uptoBulkEntries {H : Type} : List (Lit × DataW H) → Nat
  | [] => 0
  | x :: r => uptoBulkEntry x + uptoBulkEntries r
def uptoBulkEntry {H : Type} : Lit × DataW H → Nat
  | (.string bytes, d) => bytes.length + uptoBulk d + 1
  | (_, d) => uptoBulk d + 1
 end
def uptoSmall : (H : Type) → List (DataW H) → Bool := fun _ ds => decide (uptoBulkAll ds ≤ 1048576)
def OpenSpec.upto (s : _root_.Go.ChangeSpec) : _root_.Go.OpenSpec := { _root_.Go.OpenSpec.ofChange s with cond := some uptoSmall }

/-- 'lombardlaw11.LedgerPosts', WHERE WHAT IT READS IS OF BULK AT MOST 1048576: true; the input reads as it did. -/
def ledgerPostsUptoRow : OpenClaim := { program := "ytoknlpecbdlbfaa", sum := "485f8574c9eb6b8a875128d6d6a8436a9990346a549af98ab6fc5adcde7a0c22", func := "lombard/lombardlaw11.LedgerPosts", spec := "ledgerPosts", unfollowed := true, recurses := true, plainKeys := false, apart := false, narrowed := true }
def LedgerPostsUptoSaid : Prop := ledgerPostsUptoRow.holds Try.pinned (OpenSpec.upto ledgerPostsSpec)

/-- 'lombardlaw11.LedgerWhole', WHERE WHAT IT READS IS OF BULK AT MOST 1048576: true; the input reads as it did. -/
def ledgerWholeUptoRow : OpenClaim := { program := "ytoknlpecbdlbfaa", sum := "485f8574c9eb6b8a875128d6d6a8436a9990346a549af98ab6fc5adcde7a0c22", func := "lombard/lombardlaw11.LedgerWhole", spec := "ledgerWhole", unfollowed := true, recurses := true, plainKeys := false, apart := false, narrowed := true }
def LedgerWholeUptoSaid : Prop := ledgerWholeUptoRow.holds Try.pinned (OpenSpec.upto ledgerWholeSpec)

/-- 'lombardlaw11.LedgerBack', WHERE WHAT IT READS IS OF BULK AT MOST 1048576: true; the input reads as it did. -/
def ledgerBackUptoRow : OpenClaim := { program := "ytoknlpecbdlbfaa", sum := "485f8574c9eb6b8a875128d6d6a8436a9990346a549af98ab6fc5adcde7a0c22", func := "lombard/lombardlaw11.LedgerBack", spec := "ledgerBack", inPlace := ["maps.clone"], unfollowed := true, recurses := true, plainKeys := false, apart := false, narrowed := true }
def LedgerBackUptoSaid : Prop := ledgerBackUptoRow.holds Try.pinned (OpenSpec.upto ledgerBackSpec)

/-- 'lombardlaw11.LedgerTells', WHERE WHAT IT READS IS OF BULK AT MOST 1048576: true; the input reads as it did. -/
def ledgerTellsUptoRow : OpenClaim := { program := "ytoknlpecbdlbfaa", sum := "485f8574c9eb6b8a875128d6d6a8436a9990346a549af98ab6fc5adcde7a0c22", func := "lombard/lombardlaw11.LedgerTells", spec := "ledgerTells", unfollowed := true, recurses := true, plainKeys := false, apart := false, narrowed := true }
def LedgerTellsUptoSaid : Prop := ledgerTellsUptoRow.holds Try.pinned (OpenSpec.upto ledgerTellsSpec)

/-- 'lombardlaw11.LedgerNobody', WHERE WHAT IT READS IS OF BULK AT MOST 1048576: true; the input reads as it did. -/
def ledgerNobodyUptoRow : OpenClaim := { program := "ytoknlpecbdlbfaa", sum := "485f8574c9eb6b8a875128d6d6a8436a9990346a549af98ab6fc5adcde7a0c22", func := "lombard/lombardlaw11.LedgerNobody", spec := "ledgerNobody", inPlace := ["maps.clone"], unfollowed := true, recurses := true, plainKeys := false, apart := false, narrowed := true }
def LedgerNobodyUptoSaid : Prop := ledgerNobodyUptoRow.holds Try.pinned (OpenSpec.upto ledgerNobodySpec)

/-- 'lombardlaw12.CustodyPlays', WHERE WHAT IT READS IS OF BULK AT MOST 1048576: true; the input reads as it did. -/
def custodyPlaysUptoRow : OpenClaim := { program := "ytoknlpecbdlbfaa", sum := "485f8574c9eb6b8a875128d6d6a8436a9990346a549af98ab6fc5adcde7a0c22", func := "lombard/lombardlaw12.CustodyPlays", spec := "custodyPlays", unfollowed := true, recurses := true, plainKeys := false, apart := false, narrowed := true }
def CustodyPlaysUptoSaid : Prop := custodyPlaysUptoRow.holds Try.pinned (OpenSpec.upto custodyPlaysSpec)

/-- 'lombardlaw12.CustodyOnce', WHERE WHAT IT READS IS OF BULK AT MOST 1048576: true; the input reads as it did. -/
def custodyOnceUptoRow : OpenClaim := { program := "ytoknlpecbdlbfaa", sum := "485f8574c9eb6b8a875128d6d6a8436a9990346a549af98ab6fc5adcde7a0c22", func := "lombard/lombardlaw12.CustodyOnce", spec := "custodyOnce", unfollowed := true, recurses := true, plainKeys := false, apart := false, narrowed := true }
def CustodyOnceUptoSaid : Prop := custodyOnceUptoRow.holds Try.pinned (OpenSpec.upto custodyOnceSpec)

/-- 'lombardlaw11.LedgerOf', WHERE WHAT IT READS IS OF BULK AT MOST 1048576: true; the input reads as it did. -/
def ledgerOfUptoRow : OpenClaim := { program := "ytoknlpecbdlbfaa", sum := "485f8574c9eb6b8a875128d6d6a8436a9990346a549af98ab6fc5adcde7a0c22", func := "lombard/lombardlaw11.LedgerOf", spec := "ledgerOf", unfollowed := true, recurses := true, plainKeys := false, apart := false, narrowed := true }
def LedgerOfUptoSaid : Prop := ledgerOfUptoRow.holds Try.pinned (OpenSpec.upto ledgerOfSpec)

/-- 'lombardlaw12.CustodyWhole', WHERE WHAT IT READS IS OF BULK AT MOST 1048576: true; the input reads as it did. -/
def custodyWholeUptoRow : OpenClaim := { program := "ytoknlpecbdlbfaa", sum := "485f8574c9eb6b8a875128d6d6a8436a9990346a549af98ab6fc5adcde7a0c22", func := "lombard/lombardlaw12.CustodyWhole", spec := "custodyWhole", unfollowed := true, recurses := true, plainKeys := false, apart := false, narrowed := true }
def CustodyWholeUptoSaid : Prop := custodyWholeUptoRow.holds Try.pinned (OpenSpec.upto custodyWholeSpec)

/-- 'lombardlaw12.CustodyTells', WHERE WHAT IT READS IS OF BULK AT MOST 1048576: true; the input reads as it did. -/
def custodyTellsUptoRow : OpenClaim := { program := "ytoknlpecbdlbfaa", sum := "485f8574c9eb6b8a875128d6d6a8436a9990346a549af98ab6fc5adcde7a0c22", func := "lombard/lombardlaw12.CustodyTells", spec := "custodyTells", unfollowed := true, recurses := true, plainKeys := false, apart := false, narrowed := true }
def CustodyTellsUptoSaid : Prop := custodyTellsUptoRow.holds Try.pinned (OpenSpec.upto custodyTellsSpec)

/-- 'lombardlaw12.CustodyNobody', WHERE WHAT IT READS IS OF BULK AT MOST 1048576: true; the input reads as it did. -/
def custodyNobodyUptoRow : OpenClaim := { program := "ytoknlpecbdlbfaa", sum := "485f8574c9eb6b8a875128d6d6a8436a9990346a549af98ab6fc5adcde7a0c22", func := "lombard/lombardlaw12.CustodyNobody", spec := "custodyNobody", inPlace := ["maps.clone"], unfollowed := true, recurses := true, plainKeys := false, apart := false, narrowed := true }
def CustodyNobodyUptoSaid : Prop := custodyNobodyUptoRow.holds Try.pinned (OpenSpec.upto custodyNobodySpec)

/-- 'lombardlaw12.CustodyOf', WHERE WHAT IT READS IS OF BULK AT MOST 1048576: true; the input reads as it did. -/
def custodyOfUptoRow : OpenClaim := { program := "ytoknlpecbdlbfaa", sum := "485f8574c9eb6b8a875128d6d6a8436a9990346a549af98ab6fc5adcde7a0c22", func := "lombard/lombardlaw12.CustodyOf", spec := "custodyOf", inPlace := ["maps.clone"], unfollowed := true, recurses := true, plainKeys := false, apart := false, narrowed := true }
def CustodyOfUptoSaid : Prop := custodyOfUptoRow.holds Try.pinned (OpenSpec.upto custodyOfSpec)

end Rows
end Go.Proofs.Ytoknlpecbdlbfaa
