/-
  DERIVED. GIVEN WITH THE SEED: THE CARDS: each row of YtbdcnfbidbffcaaDoorRows.lean that lists a variable, with what it lists TIED to the program's text (the seventh form; the later family's looks); each row that meets fmt, with fmt's text TOLD by the authors' own Lean function (tested against real Go, not proved from fmt's source: count such statements apart). THE CARD IS WHAT COUNTS. Prove the row's statement (the work); the ties are given (YtbdcnfbidbffcaaDoorTie.lean); close each card by the builder's one call (the guide's Derived/Test/ToyasCard.lean, 'card_holds'). Laid BY PROGRAM, IN A SANDBOX (cutbox-door.mjs). By AI agents, Wed Nov 11 2026. No macro, syntax, notation, axiom, sorry.
-/
import Derived.Test.YtbdcnfbidbffcaaDoorRows
import GoSem.ClaimSeven
namespace Go.Proofs.YtbdcnfbidbffcaaDoor
namespace Rows

/-- THE TIED CARD OF 'lombardlaw04.NameChecks'. -/
def nameChecksCard : Claim7 := { stood := { row := nameChecksRow, standIns := [], harness := (true, "832b96fbe1c870795fcee04c664b50ab1e904139e6756e501b0b00adef925e31"), looks := false }, kinds := [], alts := [], laidByText := true, laidKinds := [.data, .listed, .data, .pinned], laidTests := true, laidLooks := .later }
def NameChecksCardSaid : Prop := Claim7.holds Tryd.pinned (.plain (OpenSpec.ofChange nameChecksSpec)) nameChecksCard

/-- THE TIED CARD OF 'lombardlaw04.NamePlain'. -/
def namePlainCard : Claim7 := { stood := { row := namePlainRow, standIns := [], harness := (true, "832b96fbe1c870795fcee04c664b50ab1e904139e6756e501b0b00adef925e31"), looks := false }, kinds := [], alts := [], laidByText := true, laidKinds := [.data, .listed, .data, .pinned], laidTests := true, laidLooks := .later }
def NamePlainCardSaid : Prop := Claim7.holds Tryd.pinned (.plain (OpenSpec.ofChange namePlainSpec)) namePlainCard

/-- THE TIED CARD OF 'lombardlaw04.NameColumns'. -/
def nameColumnsCard : Claim7 := { stood := { row := nameColumnsRow, standIns := [], harness := (true, "832b96fbe1c870795fcee04c664b50ab1e904139e6756e501b0b00adef925e31"), looks := false }, kinds := [], alts := [], laidByText := true, laidKinds := [.data, .listed, .data, .pinned], laidTests := true, laidLooks := .later }
def NameColumnsCardSaid : Prop := Claim7.holds Tryd.pinned (.plain (OpenSpec.ofChange nameColumnsSpec)) nameColumnsCard

/-- THE TIED CARD OF 'lombardlaw04.NameFolds'. -/
def nameFoldsCard : Claim7 := { stood := { row := nameFoldsRow, standIns := [], harness := (true, "832b96fbe1c870795fcee04c664b50ab1e904139e6756e501b0b00adef925e31"), looks := false }, kinds := [], alts := [], laidByText := true, laidKinds := [.data, .listed, .data, .pinned], laidTests := true, laidLooks := .later }
def NameFoldsCardSaid : Prop := Claim7.holds Tryd.pinned (.plain (OpenSpec.ofChange nameFoldsSpec)) nameFoldsCard

/-- THE TIED CARD OF 'lombardlaw04.NameOnce'. -/
def nameOnceCard : Claim7 := { stood := { row := nameOnceRow, standIns := [], harness := (true, "832b96fbe1c870795fcee04c664b50ab1e904139e6756e501b0b00adef925e31"), looks := false }, kinds := [], alts := [], laidByText := true, laidKinds := [.data, .listed, .data, .pinned], laidTests := true, laidLooks := .later }
def NameOnceCardSaid : Prop := Claim7.holds Tryd.pinned (.plain (OpenSpec.ofChange nameOnceSpec)) nameOnceCard

/-- THE TIED CARD OF 'lombardlaw04.NameSigns'. -/
def nameSignsCard : Claim7 := { stood := { row := nameSignsRow, standIns := [], harness := (true, "832b96fbe1c870795fcee04c664b50ab1e904139e6756e501b0b00adef925e31"), looks := false }, kinds := [], alts := [], laidByText := true, laidKinds := [.data, .listed, .data, .pinned], laidTests := true, laidLooks := .later }
def NameSignsCardSaid : Prop := Claim7.holds Tryd.pinned (.plain (OpenSpec.ofChange nameSignsSpec)) nameSignsCard

/-- THE SECOND FORM's CARD OF 'lombardlaw04.NameChecks'. -/
def nameChecksUptoCard : Claim7 := { stood := { row := nameChecksUptoRow, standIns := [], harness := (true, "832b96fbe1c870795fcee04c664b50ab1e904139e6756e501b0b00adef925e31"), looks := false }, kinds := [], alts := [], laidByText := true, laidKinds := [.data, .listed, .data, .pinned], laidTests := true, laidLooks := .later }
def NameChecksUptoCardSaid : Prop := Claim7.holds Tryd.pinned (.plain (OpenSpec.upto nameChecksSpec)) nameChecksUptoCard

/-- THE SECOND FORM's CARD OF 'lombardlaw04.NamePlain'. -/
def namePlainUptoCard : Claim7 := { stood := { row := namePlainUptoRow, standIns := [], harness := (true, "832b96fbe1c870795fcee04c664b50ab1e904139e6756e501b0b00adef925e31"), looks := false }, kinds := [], alts := [], laidByText := true, laidKinds := [.data, .listed, .data, .pinned], laidTests := true, laidLooks := .later }
def NamePlainUptoCardSaid : Prop := Claim7.holds Tryd.pinned (.plain (OpenSpec.upto namePlainSpec)) namePlainUptoCard

/-- THE SECOND FORM's CARD OF 'lombardlaw04.NameColumns'. -/
def nameColumnsUptoCard : Claim7 := { stood := { row := nameColumnsUptoRow, standIns := [], harness := (true, "832b96fbe1c870795fcee04c664b50ab1e904139e6756e501b0b00adef925e31"), looks := false }, kinds := [], alts := [], laidByText := true, laidKinds := [.data, .listed, .data, .pinned], laidTests := true, laidLooks := .later }
def NameColumnsUptoCardSaid : Prop := Claim7.holds Tryd.pinned (.plain (OpenSpec.upto nameColumnsSpec)) nameColumnsUptoCard

/-- THE SECOND FORM's CARD OF 'lombardlaw04.NameFolds'. -/
def nameFoldsUptoCard : Claim7 := { stood := { row := nameFoldsUptoRow, standIns := [], harness := (true, "832b96fbe1c870795fcee04c664b50ab1e904139e6756e501b0b00adef925e31"), looks := false }, kinds := [], alts := [], laidByText := true, laidKinds := [.data, .listed, .data, .pinned], laidTests := true, laidLooks := .later }
def NameFoldsUptoCardSaid : Prop := Claim7.holds Tryd.pinned (.plain (OpenSpec.upto nameFoldsSpec)) nameFoldsUptoCard

/-- THE SECOND FORM's CARD OF 'lombardlaw04.NameOnce'. -/
def nameOnceUptoCard : Claim7 := { stood := { row := nameOnceUptoRow, standIns := [], harness := (true, "832b96fbe1c870795fcee04c664b50ab1e904139e6756e501b0b00adef925e31"), looks := false }, kinds := [], alts := [], laidByText := true, laidKinds := [.data, .listed, .data, .pinned], laidTests := true, laidLooks := .later }
def NameOnceUptoCardSaid : Prop := Claim7.holds Tryd.pinned (.plain (OpenSpec.upto nameOnceSpec)) nameOnceUptoCard

/-- THE SECOND FORM's CARD OF 'lombardlaw04.NameSigns'. -/
def nameSignsUptoCard : Claim7 := { stood := { row := nameSignsUptoRow, standIns := [], harness := (true, "832b96fbe1c870795fcee04c664b50ab1e904139e6756e501b0b00adef925e31"), looks := false }, kinds := [], alts := [], laidByText := true, laidKinds := [.data, .listed, .data, .pinned], laidTests := true, laidLooks := .later }
def NameSignsUptoCardSaid : Prop := Claim7.holds Tryd.pinned (.plain (OpenSpec.upto nameSignsSpec)) nameSignsUptoCard
end Rows
end Go.Proofs.YtbdcnfbidbffcaaDoor
