/-
  No cell of these rows narrows 'for every input' (looked for: loops, veiled, ifaces, maps, wideKeys, modest, calm, conditions, laid).
  DERIVED. THE GIVEN ROWS OF THIS SEAT. 11 by the template 'for every input the law returns true; each argument reads behind the call as it read before'; 0 by the template 'total and deterministic' (their statements: YthggjlfiliggjaaTotals.lean).
  GIVEN WITH THE SEED: the statements are not yours to turn. If you find one false, say at which input.
  Laid BY PROGRAM, IN A SANDBOX (cutbox-rows.mjs): the forced cells as the released guide's own fill.sh prints them over the translation 7e863affa465e114… (all of the seat's roots in one cut). By AI agents, Wed Nov 11 2026. No macro, syntax, notation, axiom, sorry.
-/
import Derived.Test.YthggjlfiliggjaaChecked
import GoSem.Claim
import GoSem.ClaimJoined
import GoSem.ClaimMapViews
import Derived.JoinedTies
import Derived.KernelRfl
namespace Go.Proofs.Ythggjlfiliggjaa
/- THE CELL 'sum', in the pinned program and in every row, IS THE sha256 OF THE DUMP (.gsa) THAT YthggjlfiliggjaaProg.lean LOADS. Nothing in Lean hashes anything: it is a label: what it is worth is what the hold of that sum in a sandbox is worth. -/
noncomputable def Try.pinned : Pinned := { name := "ythggjlfiliggjaa", sum := "7e863affa465e11424d63121cd22505f2ea8993c6b834619613a17adabb59450", checked := Try.checked }
namespace Rows
def none {H : Type} : Left H := { results := [], args := [] }

/-- 'arborlaw2.FrameExtends': WHATEVER THE INPUT: true; the input reads as it did. -/
def frameExtendsSpec : ChangeSpec := { name := "frameExtends", fn := fun _ => fun
  | [d1, d2] => { results := [.lit (.bool true)], args := [d1, d2] }
  | _ => none }
def frameExtendsRow : OpenClaim := { program := "ythggjlfiliggjaa", sum := "7e863affa465e11424d63121cd22505f2ea8993c6b834619613a17adabb59450", func := "arbor/arborlaw2.FrameExtends", spec := "frameExtends", apart := false }
def FrameExtendsSaid : Prop := frameExtendsRow.holds Try.pinned (OpenSpec.ofChange frameExtendsSpec)

/-- ITS FALSE NEIGHBOUR: 'it returns false'. Refute it at one input. -/
def frameExtendsWrong : ChangeSpec := { name := "frameExtends", fn := fun _ => fun
  | [d1, d2] => { results := [.lit (.bool false)], args := [d1, d2] }
  | _ => none }
def FrameExtendsWrongFalsely : Prop := frameExtendsRow.holds Try.pinned (OpenSpec.ofChange frameExtendsWrong)

/-- 'arborlaw2.FrameSums': WHATEVER THE INPUT: true; the input reads as it did. -/
def frameSumsSpec : ChangeSpec := { name := "frameSums", fn := fun _ => fun
  | [d] => { results := [.lit (.bool true)], args := [d] }
  | _ => none }
def frameSumsRow : OpenClaim := { program := "ythggjlfiliggjaa", sum := "7e863affa465e11424d63121cd22505f2ea8993c6b834619613a17adabb59450", func := "arbor/arborlaw2.FrameSums", spec := "frameSums", apart := false }
def FrameSumsSaid : Prop := frameSumsRow.holds Try.pinned (OpenSpec.ofChange frameSumsSpec)

/-- ITS FALSE NEIGHBOUR: 'it returns false'. Refute it at one input. -/
def frameSumsWrong : ChangeSpec := { name := "frameSums", fn := fun _ => fun
  | [d] => { results := [.lit (.bool false)], args := [d] }
  | _ => none }
def FrameSumsWrongFalsely : Prop := frameSumsRow.holds Try.pinned (OpenSpec.ofChange frameSumsWrong)

/-- 'arborlaw2.FrameJoins': WHATEVER THE INPUT: true; the input reads as it did. -/
def frameJoinsSpec : ChangeSpec := { name := "frameJoins", fn := fun _ => fun
  | [d] => { results := [.lit (.bool true)], args := [d] }
  | _ => none }
def frameJoinsRow : OpenClaim := { program := "ythggjlfiliggjaa", sum := "7e863affa465e11424d63121cd22505f2ea8993c6b834619613a17adabb59450", func := "arbor/arborlaw2.FrameJoins", spec := "frameJoins", apart := false }
def FrameJoinsSaid : Prop := frameJoinsRow.holds Try.pinned (OpenSpec.ofChange frameJoinsSpec)

/-- ITS FALSE NEIGHBOUR: 'it returns false'. Refute it at one input. -/
def frameJoinsWrong : ChangeSpec := { name := "frameJoins", fn := fun _ => fun
  | [d] => { results := [.lit (.bool false)], args := [d] }
  | _ => none }
def FrameJoinsWrongFalsely : Prop := frameJoinsRow.holds Try.pinned (OpenSpec.ofChange frameJoinsWrong)

/-- 'arborlaw2.FrameXors': WHATEVER THE INPUT: true; the input reads as it did. -/
def frameXorsSpec : ChangeSpec := { name := "frameXors", fn := fun _ => fun
  | [d1, d2, d3] => { results := [.lit (.bool true)], args := [d1, d2, d3] }
  | _ => none }
def frameXorsRow : OpenClaim := { program := "ythggjlfiliggjaa", sum := "7e863affa465e11424d63121cd22505f2ea8993c6b834619613a17adabb59450", func := "arbor/arborlaw2.FrameXors", spec := "frameXors", apart := false }
def FrameXorsSaid : Prop := frameXorsRow.holds Try.pinned (OpenSpec.ofChange frameXorsSpec)

/-- ITS FALSE NEIGHBOUR: 'it returns false'. Refute it at one input. -/
def frameXorsWrong : ChangeSpec := { name := "frameXors", fn := fun _ => fun
  | [d1, d2, d3] => { results := [.lit (.bool false)], args := [d1, d2, d3] }
  | _ => none }
def FrameXorsWrongFalsely : Prop := frameXorsRow.holds Try.pinned (OpenSpec.ofChange frameXorsWrong)

/-- 'arborlaw2.FrameSeals': WHATEVER THE INPUT: true; the input reads as it did. -/
def frameSealsSpec : ChangeSpec := { name := "frameSeals", fn := fun _ => fun
  | [d1, d2] => { results := [.lit (.bool true)], args := [d1, d2] }
  | _ => none }
def frameSealsRow : OpenClaim := { program := "ythggjlfiliggjaa", sum := "7e863affa465e11424d63121cd22505f2ea8993c6b834619613a17adabb59450", func := "arbor/arborlaw2.FrameSeals", spec := "frameSeals", apart := false }
def FrameSealsSaid : Prop := frameSealsRow.holds Try.pinned (OpenSpec.ofChange frameSealsSpec)

/-- ITS FALSE NEIGHBOUR: 'it returns false'. Refute it at one input. -/
def frameSealsWrong : ChangeSpec := { name := "frameSeals", fn := fun _ => fun
  | [d1, d2] => { results := [.lit (.bool false)], args := [d1, d2] }
  | _ => none }
def FrameSealsWrongFalsely : Prop := frameSealsRow.holds Try.pinned (OpenSpec.ofChange frameSealsWrong)

/-- 'arborlaw2.FrameOpens': WHATEVER THE INPUT: true; the input reads as it did. -/
def frameOpensSpec : ChangeSpec := { name := "frameOpens", fn := fun _ => fun
  | [d] => { results := [.lit (.bool true)], args := [d] }
  | _ => none }
def frameOpensRow : OpenClaim := { program := "ythggjlfiliggjaa", sum := "7e863affa465e11424d63121cd22505f2ea8993c6b834619613a17adabb59450", func := "arbor/arborlaw2.FrameOpens", spec := "frameOpens", apart := false }
def FrameOpensSaid : Prop := frameOpensRow.holds Try.pinned (OpenSpec.ofChange frameOpensSpec)

/-- ITS FALSE NEIGHBOUR: 'it returns false'. Refute it at one input. -/
def frameOpensWrong : ChangeSpec := { name := "frameOpens", fn := fun _ => fun
  | [d] => { results := [.lit (.bool false)], args := [d] }
  | _ => none }
def FrameOpensWrongFalsely : Prop := frameOpensRow.holds Try.pinned (OpenSpec.ofChange frameOpensWrong)

/-- 'arborlaw2.FrameRooms': WHATEVER THE INPUT: true; the input reads as it did. -/
def frameRoomsSpec : ChangeSpec := { name := "frameRooms", fn := fun _ => fun
  | [d1, d2, d3] => { results := [.lit (.bool true)], args := [d1, d2, d3] }
  | _ => none }
def frameRoomsRow : OpenClaim := { program := "ythggjlfiliggjaa", sum := "7e863affa465e11424d63121cd22505f2ea8993c6b834619613a17adabb59450", func := "arbor/arborlaw2.FrameRooms", spec := "frameRooms", apart := false }
def FrameRoomsSaid : Prop := frameRoomsRow.holds Try.pinned (OpenSpec.ofChange frameRoomsSpec)

/-- ITS FALSE NEIGHBOUR: 'it returns false'. Refute it at one input. -/
def frameRoomsWrong : ChangeSpec := { name := "frameRooms", fn := fun _ => fun
  | [d1, d2, d3] => { results := [.lit (.bool false)], args := [d1, d2, d3] }
  | _ => none }
def FrameRoomsWrongFalsely : Prop := frameRoomsRow.holds Try.pinned (OpenSpec.ofChange frameRoomsWrong)

/-- 'arborlaw2.FrameRounds': WHATEVER THE INPUT: true; the input reads as it did. -/
def frameRoundsSpec : ChangeSpec := { name := "frameRounds", fn := fun _ => fun
  | [d1, d2, d3] => { results := [.lit (.bool true)], args := [d1, d2, d3] }
  | _ => none }
def frameRoundsRow : OpenClaim := { program := "ythggjlfiliggjaa", sum := "7e863affa465e11424d63121cd22505f2ea8993c6b834619613a17adabb59450", func := "arbor/arborlaw2.FrameRounds", spec := "frameRounds", apart := false }
def FrameRoundsSaid : Prop := frameRoundsRow.holds Try.pinned (OpenSpec.ofChange frameRoundsSpec)

/-- ITS FALSE NEIGHBOUR: 'it returns false'. Refute it at one input. -/
def frameRoundsWrong : ChangeSpec := { name := "frameRounds", fn := fun _ => fun
  | [d1, d2, d3] => { results := [.lit (.bool false)], args := [d1, d2, d3] }
  | _ => none }
def FrameRoundsWrongFalsely : Prop := frameRoundsRow.holds Try.pinned (OpenSpec.ofChange frameRoundsWrong)

/-- 'arborlaw2.FrameBursts': WHATEVER THE INPUT: true; the input reads as it did. -/
def frameBurstsSpec : ChangeSpec := { name := "frameBursts", fn := fun _ => fun
  | [d1, d2, d3, d4] => { results := [.lit (.bool true)], args := [d1, d2, d3, d4] }
  | _ => none }
def frameBurstsRow : OpenClaim := { program := "ythggjlfiliggjaa", sum := "7e863affa465e11424d63121cd22505f2ea8993c6b834619613a17adabb59450", func := "arbor/arborlaw2.FrameBursts", spec := "frameBursts", apart := false }
def FrameBurstsSaid : Prop := frameBurstsRow.holds Try.pinned (OpenSpec.ofChange frameBurstsSpec)

/-- ITS FALSE NEIGHBOUR: 'it returns false'. Refute it at one input. -/
def frameBurstsWrong : ChangeSpec := { name := "frameBursts", fn := fun _ => fun
  | [d1, d2, d3, d4] => { results := [.lit (.bool false)], args := [d1, d2, d3, d4] }
  | _ => none }
def FrameBurstsWrongFalsely : Prop := frameBurstsRow.holds Try.pinned (OpenSpec.ofChange frameBurstsWrong)

/-- 'arborlaw2.FrameWhole': WHATEVER THE INPUT: true; the input reads as it did. -/
def frameWholeSpec : ChangeSpec := { name := "frameWhole", fn := fun _ => fun
  | [d1, d2, d3] => { results := [.lit (.bool true)], args := [d1, d2, d3] }
  | _ => none }
def frameWholeRow : OpenClaim := { program := "ythggjlfiliggjaa", sum := "7e863affa465e11424d63121cd22505f2ea8993c6b834619613a17adabb59450", func := "arbor/arborlaw2.FrameWhole", spec := "frameWhole", apart := false }
def FrameWholeSaid : Prop := frameWholeRow.holds Try.pinned (OpenSpec.ofChange frameWholeSpec)

/-- ITS FALSE NEIGHBOUR: 'it returns false'. Refute it at one input. -/
def frameWholeWrong : ChangeSpec := { name := "frameWhole", fn := fun _ => fun
  | [d1, d2, d3] => { results := [.lit (.bool false)], args := [d1, d2, d3] }
  | _ => none }
def FrameWholeWrongFalsely : Prop := frameWholeRow.holds Try.pinned (OpenSpec.ofChange frameWholeWrong)

/-- 'arborlaw2.FrameOwn': WHATEVER THE INPUT: true; the input reads as it did. -/
def frameOwnSpec : ChangeSpec := { name := "frameOwn", fn := fun _ => fun
  | [d] => { results := [.lit (.bool true)], args := [d] }
  | _ => none }
def frameOwnRow : OpenClaim := { program := "ythggjlfiliggjaa", sum := "7e863affa465e11424d63121cd22505f2ea8993c6b834619613a17adabb59450", func := "arbor/arborlaw2.FrameOwn", spec := "frameOwn", apart := false }
def FrameOwnSaid : Prop := frameOwnRow.holds Try.pinned (OpenSpec.ofChange frameOwnSpec)

/-- ITS FALSE NEIGHBOUR: 'it returns false'. Refute it at one input. -/
def frameOwnWrong : ChangeSpec := { name := "frameOwn", fn := fun _ => fun
  | [d] => { results := [.lit (.bool false)], args := [d] }
  | _ => none }
def FrameOwnWrongFalsely : Prop := frameOwnRow.holds Try.pinned (OpenSpec.ofChange frameOwnWrong)

/- THE SECOND FORM. 'bulk': how many values and letters a reading holds, each counted each time it is reached (what is shared counts as often as it is met; a slice's spare places count too). A statement '..UptoSaid' is the law's where the arguments, and the package variables that the reading takes, are together of bulk at most 1048576: NARROWER than '..Said'. Prove '..Said' where nothing that the law and all that it calls make is longer than what came in: it says more and counts as full. Else prove '..UptoSaid'. A law counts once. -/
mutual
def uptoBulk {H : Type} : DataW H → Nat
  | .lit (.string bytes) => bytes.length + 1
  | .lit _ => 1
  | .nil => 1
  | .ptr d => uptoBulk d + 1
  | .slice elems spare => uptoBulkAll elems + uptoBulkAll spare + 1
  | .agg parts => uptoBulkAll parts + 1
  | .iface _ d => uptoBulk d + 1
  | .map entries => uptoBulkEntries entries + 1
  | .held _ => 1
def uptoBulkAll {H : Type} : List (DataW H) → Nat
  | [] => 0
  | d :: r => uptoBulk d + uptoBulkAll r
def uptoBulkEntries {H : Type} : List (Lit × DataW H) → Nat
  | [] => 0
  | x :: r => uptoBulkEntry x + uptoBulkEntries r
def uptoBulkEntry {H : Type} : Lit × DataW H → Nat
  | (.string bytes, d) => bytes.length + uptoBulk d + 1
  | (_, d) => uptoBulk d + 1
 end
def uptoSmall : (H : Type) → List (DataW H) → Bool := fun _ ds => decide (uptoBulkAll ds ≤ 1048576)
def OpenSpec.upto (s : _root_.Go.ChangeSpec) : _root_.Go.OpenSpec := { _root_.Go.OpenSpec.ofChange s with cond := some uptoSmall }

/-- 'arborlaw2.FrameExtends', WHERE WHAT IT READS IS OF BULK AT MOST 1048576: true; the input reads as it did. -/
def frameExtendsUptoRow : OpenClaim := { program := "ythggjlfiliggjaa", sum := "7e863affa465e11424d63121cd22505f2ea8993c6b834619613a17adabb59450", func := "arbor/arborlaw2.FrameExtends", spec := "frameExtends", apart := false, narrowed := true }
def FrameExtendsUptoSaid : Prop := frameExtendsUptoRow.holds Try.pinned (OpenSpec.upto frameExtendsSpec)

/-- 'arborlaw2.FrameSums', WHERE WHAT IT READS IS OF BULK AT MOST 1048576: true; the input reads as it did. -/
def frameSumsUptoRow : OpenClaim := { program := "ythggjlfiliggjaa", sum := "7e863affa465e11424d63121cd22505f2ea8993c6b834619613a17adabb59450", func := "arbor/arborlaw2.FrameSums", spec := "frameSums", apart := false, narrowed := true }
def FrameSumsUptoSaid : Prop := frameSumsUptoRow.holds Try.pinned (OpenSpec.upto frameSumsSpec)

/-- 'arborlaw2.FrameJoins', WHERE WHAT IT READS IS OF BULK AT MOST 1048576: true; the input reads as it did. -/
def frameJoinsUptoRow : OpenClaim := { program := "ythggjlfiliggjaa", sum := "7e863affa465e11424d63121cd22505f2ea8993c6b834619613a17adabb59450", func := "arbor/arborlaw2.FrameJoins", spec := "frameJoins", apart := false, narrowed := true }
def FrameJoinsUptoSaid : Prop := frameJoinsUptoRow.holds Try.pinned (OpenSpec.upto frameJoinsSpec)

/-- 'arborlaw2.FrameXors', WHERE WHAT IT READS IS OF BULK AT MOST 1048576: true; the input reads as it did. -/
def frameXorsUptoRow : OpenClaim := { program := "ythggjlfiliggjaa", sum := "7e863affa465e11424d63121cd22505f2ea8993c6b834619613a17adabb59450", func := "arbor/arborlaw2.FrameXors", spec := "frameXors", apart := false, narrowed := true }
def FrameXorsUptoSaid : Prop := frameXorsUptoRow.holds Try.pinned (OpenSpec.upto frameXorsSpec)

/-- 'arborlaw2.FrameSeals', WHERE WHAT IT READS IS OF BULK AT MOST 1048576: true; the input reads as it did. -/
def frameSealsUptoRow : OpenClaim := { program := "ythggjlfiliggjaa", sum := "7e863affa465e11424d63121cd22505f2ea8993c6b834619613a17adabb59450", func := "arbor/arborlaw2.FrameSeals", spec := "frameSeals", apart := false, narrowed := true }
def FrameSealsUptoSaid : Prop := frameSealsUptoRow.holds Try.pinned (OpenSpec.upto frameSealsSpec)

/-- 'arborlaw2.FrameOpens', WHERE WHAT IT READS IS OF BULK AT MOST 1048576: true; the input reads as it did. -/
def frameOpensUptoRow : OpenClaim := { program := "ythggjlfiliggjaa", sum := "7e863affa465e11424d63121cd22505f2ea8993c6b834619613a17adabb59450", func := "arbor/arborlaw2.FrameOpens", spec := "frameOpens", apart := false, narrowed := true }
def FrameOpensUptoSaid : Prop := frameOpensUptoRow.holds Try.pinned (OpenSpec.upto frameOpensSpec)

/-- 'arborlaw2.FrameRooms', WHERE WHAT IT READS IS OF BULK AT MOST 1048576: true; the input reads as it did. -/
def frameRoomsUptoRow : OpenClaim := { program := "ythggjlfiliggjaa", sum := "7e863affa465e11424d63121cd22505f2ea8993c6b834619613a17adabb59450", func := "arbor/arborlaw2.FrameRooms", spec := "frameRooms", apart := false, narrowed := true }
def FrameRoomsUptoSaid : Prop := frameRoomsUptoRow.holds Try.pinned (OpenSpec.upto frameRoomsSpec)

/-- 'arborlaw2.FrameRounds', WHERE WHAT IT READS IS OF BULK AT MOST 1048576: true; the input reads as it did. -/
def frameRoundsUptoRow : OpenClaim := { program := "ythggjlfiliggjaa", sum := "7e863affa465e11424d63121cd22505f2ea8993c6b834619613a17adabb59450", func := "arbor/arborlaw2.FrameRounds", spec := "frameRounds", apart := false, narrowed := true }
def FrameRoundsUptoSaid : Prop := frameRoundsUptoRow.holds Try.pinned (OpenSpec.upto frameRoundsSpec)

/-- 'arborlaw2.FrameBursts', WHERE WHAT IT READS IS OF BULK AT MOST 1048576: true; the input reads as it did. -/
def frameBurstsUptoRow : OpenClaim := { program := "ythggjlfiliggjaa", sum := "7e863affa465e11424d63121cd22505f2ea8993c6b834619613a17adabb59450", func := "arbor/arborlaw2.FrameBursts", spec := "frameBursts", apart := false, narrowed := true }
def FrameBurstsUptoSaid : Prop := frameBurstsUptoRow.holds Try.pinned (OpenSpec.upto frameBurstsSpec)

/-- 'arborlaw2.FrameWhole', WHERE WHAT IT READS IS OF BULK AT MOST 1048576: true; the input reads as it did. -/
def frameWholeUptoRow : OpenClaim := { program := "ythggjlfiliggjaa", sum := "7e863affa465e11424d63121cd22505f2ea8993c6b834619613a17adabb59450", func := "arbor/arborlaw2.FrameWhole", spec := "frameWhole", apart := false, narrowed := true }
def FrameWholeUptoSaid : Prop := frameWholeUptoRow.holds Try.pinned (OpenSpec.upto frameWholeSpec)

/-- 'arborlaw2.FrameOwn', WHERE WHAT IT READS IS OF BULK AT MOST 1048576: true; the input reads as it did. -/
def frameOwnUptoRow : OpenClaim := { program := "ythggjlfiliggjaa", sum := "7e863affa465e11424d63121cd22505f2ea8993c6b834619613a17adabb59450", func := "arbor/arborlaw2.FrameOwn", spec := "frameOwn", apart := false, narrowed := true }
def FrameOwnUptoSaid : Prop := frameOwnUptoRow.holds Try.pinned (OpenSpec.upto frameOwnSpec)

end Rows
end Go.Proofs.Ythggjlfiliggjaa
