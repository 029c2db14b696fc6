/-
  DERIVED. GIVEN WITH THE SEED: THE CARDS: each row of YteblahoijolegaaGreatDoorRows.lean that lists a variable, with what it lists TIED to the program's text (the seventh form; the later family's looks); each row that meets fmt, with fmt's text TOLD by the authors' own Lean function (tested against real Go, not proved from fmt's source: count such statements apart). THE CARD IS WHAT COUNTS. Prove the row's statement (the work); the ties are given (YteblahoijolegaaGreatDoorTie.lean); close each card by the builder's one call (the guide's Derived/Test/ToyasCard.lean, 'card_holds'). Laid BY PROGRAM, IN A SANDBOX (cutbox-door.mjs). By AI agents, Wed Nov 11 2026. No macro, syntax, notation, axiom, sorry.
-/
import Derived.Test.YteblahoijolegaaGreatDoorRows
import GoSem.ClaimSeven
namespace Go.Proofs.YteblahoijolegaaGreatDoor
namespace Rows

/-- THE TIED CARD OF 'chinoiserielaw16.GrantLowers'. -/
def grantLowersCard : Claim7 := { stood := { row := grantLowersRow, standIns := [], harness := (true, "961866c3953ae77363d96e7b47a1a2e2786dbafe76da2ca5c30dd38276879f3e"), looks := false }, kinds := [], alts := [], laidByText := true, laidKinds := [.data, .data, .data, .data, .pinned], laidTests := true, laidLooks := .later }
def GrantLowersCardSaid : Prop := Claim7.holds Tryz.pinned (.plain (OpenSpec.ofChange grantLowersSpec)) grantLowersCard

/-- THE TIED CARD OF 'chinoiserielaw16.GrantSafe'. -/
def grantSafeCard : Claim7 := { stood := { row := grantSafeRow, standIns := [], harness := (true, "961866c3953ae77363d96e7b47a1a2e2786dbafe76da2ca5c30dd38276879f3e"), looks := false }, kinds := [], alts := [], laidByText := true, laidKinds := [.data, .data, .data, .data, .pinned], laidTests := true, laidLooks := .later }
def GrantSafeCardSaid : Prop := Claim7.holds Tryz.pinned (.plain (OpenSpec.ofChange grantSafeSpec)) grantSafeCard

/-- THE TIED CARD OF 'chinoiserielaw16.GrantNone'. -/
def grantNoneCard : Claim7 := { stood := { row := grantNoneRow, standIns := [], harness := (true, "961866c3953ae77363d96e7b47a1a2e2786dbafe76da2ca5c30dd38276879f3e"), looks := false }, kinds := [], alts := [], laidByText := true, laidKinds := [.data, .data, .data, .data, .pinned], laidTests := true, laidLooks := .later }
def GrantNoneCardSaid : Prop := Claim7.holds Tryz.pinned (.plain (OpenSpec.ofChange grantNoneSpec)) grantNoneCard

/-- THE TIED CARD OF 'chinoiserielaw16.GrantFirst'. -/
def grantFirstCard : Claim7 := { stood := { row := grantFirstRow, standIns := [], harness := (true, "961866c3953ae77363d96e7b47a1a2e2786dbafe76da2ca5c30dd38276879f3e"), looks := false }, kinds := [], alts := [], laidByText := true, laidKinds := [.data, .data, .data, .data, .pinned], laidTests := true, laidLooks := .later }
def GrantFirstCardSaid : Prop := Claim7.holds Tryz.pinned (.plain (OpenSpec.ofChange grantFirstSpec)) grantFirstCard

/-- THE TIED CARD OF 'chinoiserielaw16.GrantNames'. -/
def grantNamesCard : Claim7 := { stood := { row := grantNamesRow, standIns := [], harness := (true, "961866c3953ae77363d96e7b47a1a2e2786dbafe76da2ca5c30dd38276879f3e"), looks := false }, kinds := [], alts := [], laidByText := true, laidKinds := [.data, .data, .data, .data, .pinned], laidTests := true, laidLooks := .later }
def GrantNamesCardSaid : Prop := Claim7.holds Tryz.pinned (.plain (OpenSpec.ofChange grantNamesSpec)) grantNamesCard

/-- THE TIED CARD OF 'chinoiserielaw16.GrantMore'. -/
def grantMoreCard : Claim7 := { stood := { row := grantMoreRow, standIns := [], harness := (true, "961866c3953ae77363d96e7b47a1a2e2786dbafe76da2ca5c30dd38276879f3e"), looks := false }, kinds := [], alts := [], laidByText := true, laidKinds := [.data, .data, .data, .data, .pinned], laidTests := true, laidLooks := .later }
def GrantMoreCardSaid : Prop := Claim7.holds Tryz.pinned (.plain (OpenSpec.ofChange grantMoreSpec)) grantMoreCard

/-- THE SECOND FORM's CARD OF 'chinoiserielaw16.GrantLowers'. -/
def grantLowersUptoCard : Claim7 := { stood := { row := grantLowersUptoRow, standIns := [], harness := (true, "961866c3953ae77363d96e7b47a1a2e2786dbafe76da2ca5c30dd38276879f3e"), looks := false }, kinds := [], alts := [], laidByText := true, laidKinds := [.data, .data, .data, .data, .pinned], laidTests := true, laidLooks := .later }
def GrantLowersUptoCardSaid : Prop := Claim7.holds Tryz.pinned (.plain (OpenSpec.upto grantLowersSpec)) grantLowersUptoCard

/-- THE SECOND FORM's CARD OF 'chinoiserielaw16.GrantSafe'. -/
def grantSafeUptoCard : Claim7 := { stood := { row := grantSafeUptoRow, standIns := [], harness := (true, "961866c3953ae77363d96e7b47a1a2e2786dbafe76da2ca5c30dd38276879f3e"), looks := false }, kinds := [], alts := [], laidByText := true, laidKinds := [.data, .data, .data, .data, .pinned], laidTests := true, laidLooks := .later }
def GrantSafeUptoCardSaid : Prop := Claim7.holds Tryz.pinned (.plain (OpenSpec.upto grantSafeSpec)) grantSafeUptoCard

/-- THE SECOND FORM's CARD OF 'chinoiserielaw16.GrantNone'. -/
def grantNoneUptoCard : Claim7 := { stood := { row := grantNoneUptoRow, standIns := [], harness := (true, "961866c3953ae77363d96e7b47a1a2e2786dbafe76da2ca5c30dd38276879f3e"), looks := false }, kinds := [], alts := [], laidByText := true, laidKinds := [.data, .data, .data, .data, .pinned], laidTests := true, laidLooks := .later }
def GrantNoneUptoCardSaid : Prop := Claim7.holds Tryz.pinned (.plain (OpenSpec.upto grantNoneSpec)) grantNoneUptoCard

/-- THE SECOND FORM's CARD OF 'chinoiserielaw16.GrantFirst'. -/
def grantFirstUptoCard : Claim7 := { stood := { row := grantFirstUptoRow, standIns := [], harness := (true, "961866c3953ae77363d96e7b47a1a2e2786dbafe76da2ca5c30dd38276879f3e"), looks := false }, kinds := [], alts := [], laidByText := true, laidKinds := [.data, .data, .data, .data, .pinned], laidTests := true, laidLooks := .later }
def GrantFirstUptoCardSaid : Prop := Claim7.holds Tryz.pinned (.plain (OpenSpec.upto grantFirstSpec)) grantFirstUptoCard

/-- THE SECOND FORM's CARD OF 'chinoiserielaw16.GrantNames'. -/
def grantNamesUptoCard : Claim7 := { stood := { row := grantNamesUptoRow, standIns := [], harness := (true, "961866c3953ae77363d96e7b47a1a2e2786dbafe76da2ca5c30dd38276879f3e"), looks := false }, kinds := [], alts := [], laidByText := true, laidKinds := [.data, .data, .data, .data, .pinned], laidTests := true, laidLooks := .later }
def GrantNamesUptoCardSaid : Prop := Claim7.holds Tryz.pinned (.plain (OpenSpec.upto grantNamesSpec)) grantNamesUptoCard

/-- THE SECOND FORM's CARD OF 'chinoiserielaw16.GrantMore'. -/
def grantMoreUptoCard : Claim7 := { stood := { row := grantMoreUptoRow, standIns := [], harness := (true, "961866c3953ae77363d96e7b47a1a2e2786dbafe76da2ca5c30dd38276879f3e"), looks := false }, kinds := [], alts := [], laidByText := true, laidKinds := [.data, .data, .data, .data, .pinned], laidTests := true, laidLooks := .later }
def GrantMoreUptoCardSaid : Prop := Claim7.holds Tryz.pinned (.plain (OpenSpec.upto grantMoreSpec)) grantMoreUptoCard
end Rows
end Go.Proofs.YteblahoijolegaaGreatDoor
