/-
  No cell of these rows narrows 'for every input' (looked for: loops, veiled, ifaces, maps, wideKeys, modest, calm, conditions, laid).
  DERIVED. THE GIVEN ROWS OF THIS SEAT. 13 by the template 'for every input the law returns true; each argument reads behind the call as it read before'; 0 by the template 'total and deterministic' (their statements: YtkkiipjfbebipaaTotals.lean).
  GIVEN WITH THE SEED: the statements are not yours to turn. If you find one false, say at which input.
  Laid BY PROGRAM, IN A SANDBOX (cutbox-rows.mjs): the forced cells as the released guide's own fill.sh prints them over the translation 210eb4c564e09faa… (all of the seat's roots in one cut). By AI agents, Wed Nov 11 2026. No macro, syntax, notation, axiom, sorry.
-/
import Derived.Test.YtkkiipjfbebipaaChecked
import GoSem.Claim
import GoSem.ClaimJoined
import GoSem.ClaimMapViews
import Derived.JoinedTies
import Derived.KernelRfl
namespace Go.Proofs.Ytkkiipjfbebipaa
/- THE CELL 'sum', in the pinned program and in every row, IS THE sha256 OF THE DUMP (.gsa) THAT YtkkiipjfbebipaaProg.lean LOADS. Nothing in Lean hashes anything: it is a label: what it is worth is what the hold of that sum in a sandbox is worth. -/
noncomputable def Try.pinned : Pinned := { name := "ytkkiipjfbebipaa", sum := "210eb4c564e09faafeb0f1764bb29d1b8075b4a224bd1ec06cff7885f44a6068", checked := Try.checked }
namespace Rows
def none {H : Type} : Left H := { results := [], args := [] }

/-- 'steeninglaw11.KnotsAsk': WHATEVER THE INPUT: true; the input reads as it did. -/
def knotsAskSpec : ChangeSpec := { name := "knotsAsk", fn := fun _ => fun
  | [d] => { results := [.lit (.bool true)], args := [d] }
  | _ => none }
def knotsAskRow : OpenClaim := { program := "ytkkiipjfbebipaa", sum := "210eb4c564e09faafeb0f1764bb29d1b8075b4a224bd1ec06cff7885f44a6068", func := "steening/steeninglaw11.KnotsAsk", spec := "knotsAsk", unfollowed := true, recurses := true, apart := false }
def KnotsAskSaid : Prop := knotsAskRow.holds Try.pinned (OpenSpec.ofChange knotsAskSpec)

/-- ITS FALSE NEIGHBOUR: 'it returns false'. Refute it at one input. -/
def knotsAskWrong : ChangeSpec := { name := "knotsAsk", fn := fun _ => fun
  | [d] => { results := [.lit (.bool false)], args := [d] }
  | _ => none }
def KnotsAskWrongFalsely : Prop := knotsAskRow.holds Try.pinned (OpenSpec.ofChange knotsAskWrong)

/-- 'steeninglaw11.KnotsRetie': WHATEVER THE INPUT: true; the input reads as it did. -/
def knotsRetieSpec : ChangeSpec := { name := "knotsRetie", fn := fun _ => fun
  | [d] => { results := [.lit (.bool true)], args := [d] }
  | _ => none }
def knotsRetieRow : OpenClaim := { program := "ytkkiipjfbebipaa", sum := "210eb4c564e09faafeb0f1764bb29d1b8075b4a224bd1ec06cff7885f44a6068", func := "steening/steeninglaw11.KnotsRetie", spec := "knotsRetie", unfollowed := true, recurses := true, apart := false }
def KnotsRetieSaid : Prop := knotsRetieRow.holds Try.pinned (OpenSpec.ofChange knotsRetieSpec)

/-- ITS FALSE NEIGHBOUR: 'it returns false'. Refute it at one input. -/
def knotsRetieWrong : ChangeSpec := { name := "knotsRetie", fn := fun _ => fun
  | [d] => { results := [.lit (.bool false)], args := [d] }
  | _ => none }
def KnotsRetieWrongFalsely : Prop := knotsRetieRow.holds Try.pinned (OpenSpec.ofChange knotsRetieWrong)

/-- 'steeninglaw11.KnotsClear': WHATEVER THE INPUT: true; the input reads as it did. -/
def knotsClearSpec : ChangeSpec := { name := "knotsClear", fn := fun _ => fun
  | [d1, d2, d3] => { results := [.lit (.bool true)], args := [d1, d2, d3] }
  | _ => none }
def knotsClearRow : OpenClaim := { program := "ytkkiipjfbebipaa", sum := "210eb4c564e09faafeb0f1764bb29d1b8075b4a224bd1ec06cff7885f44a6068", func := "steening/steeninglaw11.KnotsClear", spec := "knotsClear", unfollowed := true, recurses := true, apart := false }
def KnotsClearSaid : Prop := knotsClearRow.holds Try.pinned (OpenSpec.ofChange knotsClearSpec)

/-- ITS FALSE NEIGHBOUR: 'it returns false'. Refute it at one input. -/
def knotsClearWrong : ChangeSpec := { name := "knotsClear", fn := fun _ => fun
  | [d1, d2, d3] => { results := [.lit (.bool false)], args := [d1, d2, d3] }
  | _ => none }
def KnotsClearWrongFalsely : Prop := knotsClearRow.holds Try.pinned (OpenSpec.ofChange knotsClearWrong)

/-- 'steeninglaw11.KnotsRetied': WHATEVER THE INPUT: true; the input reads as it did. -/
def knotsRetiedSpec : ChangeSpec := { name := "knotsRetied", fn := fun _ => fun
  | [d1, d2] => { results := [.lit (.bool true)], args := [d1, d2] }
  | _ => none }
def knotsRetiedRow : OpenClaim := { program := "ytkkiipjfbebipaa", sum := "210eb4c564e09faafeb0f1764bb29d1b8075b4a224bd1ec06cff7885f44a6068", func := "steening/steeninglaw11.KnotsRetied", spec := "knotsRetied", unfollowed := true, recurses := true, apart := false }
def KnotsRetiedSaid : Prop := knotsRetiedRow.holds Try.pinned (OpenSpec.ofChange knotsRetiedSpec)

/-- ITS FALSE NEIGHBOUR: 'it returns false'. Refute it at one input. -/
def knotsRetiedWrong : ChangeSpec := { name := "knotsRetied", fn := fun _ => fun
  | [d1, d2] => { results := [.lit (.bool false)], args := [d1, d2] }
  | _ => none }
def KnotsRetiedWrongFalsely : Prop := knotsRetiedRow.holds Try.pinned (OpenSpec.ofChange knotsRetiedWrong)

/-- 'steeninglaw11.KnotsCount': WHATEVER THE INPUT: true; the input reads as it did. -/
def knotsCountSpec : ChangeSpec := { name := "knotsCount", fn := fun _ => fun
  | [d1, d2] => { results := [.lit (.bool true)], args := [d1, d2] }
  | _ => none }
def knotsCountRow : OpenClaim := { program := "ytkkiipjfbebipaa", sum := "210eb4c564e09faafeb0f1764bb29d1b8075b4a224bd1ec06cff7885f44a6068", func := "steening/steeninglaw11.KnotsCount", spec := "knotsCount", unfollowed := true, recurses := true, apart := false }
def KnotsCountSaid : Prop := knotsCountRow.holds Try.pinned (OpenSpec.ofChange knotsCountSpec)

/-- ITS FALSE NEIGHBOUR: 'it returns false'. Refute it at one input. -/
def knotsCountWrong : ChangeSpec := { name := "knotsCount", fn := fun _ => fun
  | [d1, d2] => { results := [.lit (.bool false)], args := [d1, d2] }
  | _ => none }
def KnotsCountWrongFalsely : Prop := knotsCountRow.holds Try.pinned (OpenSpec.ofChange knotsCountWrong)

/-- 'steeninglaw11.KnotsDigits': WHATEVER THE INPUT: true; the input reads as it did. -/
def knotsDigitsSpec : ChangeSpec := { name := "knotsDigits", fn := fun _ => fun
  | [d1, d2] => { results := [.lit (.bool true)], args := [d1, d2] }
  | _ => none }
def knotsDigitsRow : OpenClaim := { program := "ytkkiipjfbebipaa", sum := "210eb4c564e09faafeb0f1764bb29d1b8075b4a224bd1ec06cff7885f44a6068", func := "steening/steeninglaw11.KnotsDigits", spec := "knotsDigits", unfollowed := true, recurses := true, apart := false }
def KnotsDigitsSaid : Prop := knotsDigitsRow.holds Try.pinned (OpenSpec.ofChange knotsDigitsSpec)

/-- ITS FALSE NEIGHBOUR: 'it returns false'. Refute it at one input. -/
def knotsDigitsWrong : ChangeSpec := { name := "knotsDigits", fn := fun _ => fun
  | [d1, d2] => { results := [.lit (.bool false)], args := [d1, d2] }
  | _ => none }
def KnotsDigitsWrongFalsely : Prop := knotsDigitsRow.holds Try.pinned (OpenSpec.ofChange knotsDigitsWrong)

/-- 'steeninglaw11.KnotsBack': WHATEVER THE INPUT: true; the input reads as it did. -/
def knotsBackSpec : ChangeSpec := { name := "knotsBack", fn := fun _ => fun
  | [d1, d2] => { results := [.lit (.bool true)], args := [d1, d2] }
  | _ => none }
def knotsBackRow : OpenClaim := { program := "ytkkiipjfbebipaa", sum := "210eb4c564e09faafeb0f1764bb29d1b8075b4a224bd1ec06cff7885f44a6068", func := "steening/steeninglaw11.KnotsBack", spec := "knotsBack", unfollowed := true, recurses := true, apart := false }
def KnotsBackSaid : Prop := knotsBackRow.holds Try.pinned (OpenSpec.ofChange knotsBackSpec)

/-- ITS FALSE NEIGHBOUR: 'it returns false'. Refute it at one input. -/
def knotsBackWrong : ChangeSpec := { name := "knotsBack", fn := fun _ => fun
  | [d1, d2] => { results := [.lit (.bool false)], args := [d1, d2] }
  | _ => none }
def KnotsBackWrongFalsely : Prop := knotsBackRow.holds Try.pinned (OpenSpec.ofChange knotsBackWrong)

/-- 'steeninglaw11.KnotsOrder': WHATEVER THE INPUT: true; the input reads as it did. -/
def knotsOrderSpec : ChangeSpec := { name := "knotsOrder", fn := fun _ => fun
  | [d1, d2, d3] => { results := [.lit (.bool true)], args := [d1, d2, d3] }
  | _ => none }
def knotsOrderRow : OpenClaim := { program := "ytkkiipjfbebipaa", sum := "210eb4c564e09faafeb0f1764bb29d1b8075b4a224bd1ec06cff7885f44a6068", func := "steening/steeninglaw11.KnotsOrder", spec := "knotsOrder", unfollowed := true, recurses := true, apart := false }
def KnotsOrderSaid : Prop := knotsOrderRow.holds Try.pinned (OpenSpec.ofChange knotsOrderSpec)

/-- ITS FALSE NEIGHBOUR: 'it returns false'. Refute it at one input. -/
def knotsOrderWrong : ChangeSpec := { name := "knotsOrder", fn := fun _ => fun
  | [d1, d2, d3] => { results := [.lit (.bool false)], args := [d1, d2, d3] }
  | _ => none }
def KnotsOrderWrongFalsely : Prop := knotsOrderRow.holds Try.pinned (OpenSpec.ofChange knotsOrderWrong)

/-- 'steeninglaw11.KnotsNothing': WHATEVER THE INPUT: true; the input reads as it did. -/
def knotsNothingSpec : ChangeSpec := { name := "knotsNothing", fn := fun _ => fun
  | [d1, d2] => { results := [.lit (.bool true)], args := [d1, d2] }
  | _ => none }
def knotsNothingRow : OpenClaim := { program := "ytkkiipjfbebipaa", sum := "210eb4c564e09faafeb0f1764bb29d1b8075b4a224bd1ec06cff7885f44a6068", func := "steening/steeninglaw11.KnotsNothing", spec := "knotsNothing", unfollowed := true, recurses := true, apart := false }
def KnotsNothingSaid : Prop := knotsNothingRow.holds Try.pinned (OpenSpec.ofChange knotsNothingSpec)

/-- ITS FALSE NEIGHBOUR: 'it returns false'. Refute it at one input. -/
def knotsNothingWrong : ChangeSpec := { name := "knotsNothing", fn := fun _ => fun
  | [d1, d2] => { results := [.lit (.bool false)], args := [d1, d2] }
  | _ => none }
def KnotsNothingWrongFalsely : Prop := knotsNothingRow.holds Try.pinned (OpenSpec.ofChange knotsNothingWrong)

/-- 'steeninglaw11.KnotsTie': WHATEVER THE INPUT: true; the input reads as it did. -/
def knotsTieSpec : ChangeSpec := { name := "knotsTie", fn := fun _ => fun
  | [d1, d2, d3] => { results := [.lit (.bool true)], args := [d1, d2, d3] }
  | _ => none }
def knotsTieRow : OpenClaim := { program := "ytkkiipjfbebipaa", sum := "210eb4c564e09faafeb0f1764bb29d1b8075b4a224bd1ec06cff7885f44a6068", func := "steening/steeninglaw11.KnotsTie", spec := "knotsTie", unfollowed := true, recurses := true, apart := false }
def KnotsTieSaid : Prop := knotsTieRow.holds Try.pinned (OpenSpec.ofChange knotsTieSpec)

/-- ITS FALSE NEIGHBOUR: 'it returns false'. Refute it at one input. -/
def knotsTieWrong : ChangeSpec := { name := "knotsTie", fn := fun _ => fun
  | [d1, d2, d3] => { results := [.lit (.bool false)], args := [d1, d2, d3] }
  | _ => none }
def KnotsTieWrongFalsely : Prop := knotsTieRow.holds Try.pinned (OpenSpec.ofChange knotsTieWrong)

/-- 'steeninglaw11.KnotsSure': WHATEVER THE INPUT: true; the input reads as it did. -/
def knotsSureSpec : ChangeSpec := { name := "knotsSure", fn := fun _ => fun
  | [d1, d2] => { results := [.lit (.bool true)], args := [d1, d2] }
  | _ => none }
def knotsSureRow : OpenClaim := { program := "ytkkiipjfbebipaa", sum := "210eb4c564e09faafeb0f1764bb29d1b8075b4a224bd1ec06cff7885f44a6068", func := "steening/steeninglaw11.KnotsSure", spec := "knotsSure", unfollowed := true, recurses := true, apart := false }
def KnotsSureSaid : Prop := knotsSureRow.holds Try.pinned (OpenSpec.ofChange knotsSureSpec)

/-- ITS FALSE NEIGHBOUR: 'it returns false'. Refute it at one input. -/
def knotsSureWrong : ChangeSpec := { name := "knotsSure", fn := fun _ => fun
  | [d1, d2] => { results := [.lit (.bool false)], args := [d1, d2] }
  | _ => none }
def KnotsSureWrongFalsely : Prop := knotsSureRow.holds Try.pinned (OpenSpec.ofChange knotsSureWrong)

/-- 'steeninglaw11.KnotsRight': WHATEVER THE INPUT: true; the input reads as it did. -/
def knotsRightSpec : ChangeSpec := { name := "knotsRight", fn := fun _ => fun
  | [d1, d2] => { results := [.lit (.bool true)], args := [d1, d2] }
  | _ => none }
def knotsRightRow : OpenClaim := { program := "ytkkiipjfbebipaa", sum := "210eb4c564e09faafeb0f1764bb29d1b8075b4a224bd1ec06cff7885f44a6068", func := "steening/steeninglaw11.KnotsRight", spec := "knotsRight", unfollowed := true, recurses := true, apart := false }
def KnotsRightSaid : Prop := knotsRightRow.holds Try.pinned (OpenSpec.ofChange knotsRightSpec)

/-- ITS FALSE NEIGHBOUR: 'it returns false'. Refute it at one input. -/
def knotsRightWrong : ChangeSpec := { name := "knotsRight", fn := fun _ => fun
  | [d1, d2] => { results := [.lit (.bool false)], args := [d1, d2] }
  | _ => none }
def KnotsRightWrongFalsely : Prop := knotsRightRow.holds Try.pinned (OpenSpec.ofChange knotsRightWrong)

/-- 'steeninglaw11.KnotsEach': WHATEVER THE INPUT: true; the input reads as it did. -/
def knotsEachSpec : ChangeSpec := { name := "knotsEach", fn := fun _ => fun
  | [d1, d2] => { results := [.lit (.bool true)], args := [d1, d2] }
  | _ => none }
def knotsEachRow : OpenClaim := { program := "ytkkiipjfbebipaa", sum := "210eb4c564e09faafeb0f1764bb29d1b8075b4a224bd1ec06cff7885f44a6068", func := "steening/steeninglaw11.KnotsEach", spec := "knotsEach", unfollowed := true, recurses := true, apart := false }
def KnotsEachSaid : Prop := knotsEachRow.holds Try.pinned (OpenSpec.ofChange knotsEachSpec)

/-- ITS FALSE NEIGHBOUR: 'it returns false'. Refute it at one input. -/
def knotsEachWrong : ChangeSpec := { name := "knotsEach", fn := fun _ => fun
  | [d1, d2] => { results := [.lit (.bool false)], args := [d1, d2] }
  | _ => none }
def KnotsEachWrongFalsely : Prop := knotsEachRow.holds Try.pinned (OpenSpec.ofChange knotsEachWrong)

/- THE SECOND FORM. 'bulk': how many values and letters a reading holds, each counted each time it is reached (what is shared counts as often as it is met; a slice's spare places count too). A statement '..UptoSaid' is the law's where the arguments, and the package variables that the reading takes, are together of bulk at most 1048576: NARROWER than '..Said'. Prove '..Said' where nothing that the law and all that it calls make is longer than what came in: it says more and counts as full. Else prove '..UptoSaid'. A law counts once. -/
mutual
def uptoBulk {H : Type} : DataW H → Nat
  | .lit (.string bytes) => bytes.length + 1
  | .lit _ => 1
  | .nil => 1
  | .ptr d => uptoBulk d + 1
  | .slice elems spare => uptoBulkAll elems + uptoBulkAll spare + 1
  | .agg parts => uptoBulkAll parts + 1
  | .iface _ d => uptoBulk d + 1
  | .map entries => uptoBulkEntries entries + 1
  | .held _ => 1
def uptoBulkAll {H : Type} : List (DataW H) → Nat
  | [] => 0
  | d :: r => uptoBulk d + uptoBulkAll r
def uptoBulkEntries {H : Type} : List (Lit × DataW H) → Nat
  | [] => 0
  | x :: r => uptoBulkEntry x + uptoBulkEntries r
def uptoBulkEntry {H : Type} : Lit × DataW H → Nat
  | (.string bytes, d) => bytes.length + uptoBulk d + 1
  | (_, d) => uptoBulk d + 1
 end
def uptoSmall : (H : Type) → List (DataW H) → Bool := fun _ ds => decide (uptoBulkAll ds ≤ 1048576)
def OpenSpec.upto (s : _root_.Go.ChangeSpec) : _root_.Go.OpenSpec := { _root_.Go.OpenSpec.ofChange s with cond := some uptoSmall }

/-- 'steeninglaw11.KnotsAsk', WHERE WHAT IT READS IS OF BULK AT MOST 1048576: true; the input reads as it did. -/
def knotsAskUptoRow : OpenClaim := { program := "ytkkiipjfbebipaa", sum := "210eb4c564e09faafeb0f1764bb29d1b8075b4a224bd1ec06cff7885f44a6068", func := "steening/steeninglaw11.KnotsAsk", spec := "knotsAsk", unfollowed := true, recurses := true, apart := false, narrowed := true }
def KnotsAskUptoSaid : Prop := knotsAskUptoRow.holds Try.pinned (OpenSpec.upto knotsAskSpec)

/-- 'steeninglaw11.KnotsRetie', WHERE WHAT IT READS IS OF BULK AT MOST 1048576: true; the input reads as it did. -/
def knotsRetieUptoRow : OpenClaim := { program := "ytkkiipjfbebipaa", sum := "210eb4c564e09faafeb0f1764bb29d1b8075b4a224bd1ec06cff7885f44a6068", func := "steening/steeninglaw11.KnotsRetie", spec := "knotsRetie", unfollowed := true, recurses := true, apart := false, narrowed := true }
def KnotsRetieUptoSaid : Prop := knotsRetieUptoRow.holds Try.pinned (OpenSpec.upto knotsRetieSpec)

/-- 'steeninglaw11.KnotsClear', WHERE WHAT IT READS IS OF BULK AT MOST 1048576: true; the input reads as it did. -/
def knotsClearUptoRow : OpenClaim := { program := "ytkkiipjfbebipaa", sum := "210eb4c564e09faafeb0f1764bb29d1b8075b4a224bd1ec06cff7885f44a6068", func := "steening/steeninglaw11.KnotsClear", spec := "knotsClear", unfollowed := true, recurses := true, apart := false, narrowed := true }
def KnotsClearUptoSaid : Prop := knotsClearUptoRow.holds Try.pinned (OpenSpec.upto knotsClearSpec)

/-- 'steeninglaw11.KnotsRetied', WHERE WHAT IT READS IS OF BULK AT MOST 1048576: true; the input reads as it did. -/
def knotsRetiedUptoRow : OpenClaim := { program := "ytkkiipjfbebipaa", sum := "210eb4c564e09faafeb0f1764bb29d1b8075b4a224bd1ec06cff7885f44a6068", func := "steening/steeninglaw11.KnotsRetied", spec := "knotsRetied", unfollowed := true, recurses := true, apart := false, narrowed := true }
def KnotsRetiedUptoSaid : Prop := knotsRetiedUptoRow.holds Try.pinned (OpenSpec.upto knotsRetiedSpec)

/-- 'steeninglaw11.KnotsCount', WHERE WHAT IT READS IS OF BULK AT MOST 1048576: true; the input reads as it did. -/
def knotsCountUptoRow : OpenClaim := { program := "ytkkiipjfbebipaa", sum := "210eb4c564e09faafeb0f1764bb29d1b8075b4a224bd1ec06cff7885f44a6068", func := "steening/steeninglaw11.KnotsCount", spec := "knotsCount", unfollowed := true, recurses := true, apart := false, narrowed := true }
def KnotsCountUptoSaid : Prop := knotsCountUptoRow.holds Try.pinned (OpenSpec.upto knotsCountSpec)

/-- 'steeninglaw11.KnotsDigits', WHERE WHAT IT READS IS OF BULK AT MOST 1048576: true; the input reads as it did. -/
def knotsDigitsUptoRow : OpenClaim := { program := "ytkkiipjfbebipaa", sum := "210eb4c564e09faafeb0f1764bb29d1b8075b4a224bd1ec06cff7885f44a6068", func := "steening/steeninglaw11.KnotsDigits", spec := "knotsDigits", unfollowed := true, recurses := true, apart := false, narrowed := true }
def KnotsDigitsUptoSaid : Prop := knotsDigitsUptoRow.holds Try.pinned (OpenSpec.upto knotsDigitsSpec)

/-- 'steeninglaw11.KnotsBack', WHERE WHAT IT READS IS OF BULK AT MOST 1048576: true; the input reads as it did. -/
def knotsBackUptoRow : OpenClaim := { program := "ytkkiipjfbebipaa", sum := "210eb4c564e09faafeb0f1764bb29d1b8075b4a224bd1ec06cff7885f44a6068", func := "steening/steeninglaw11.KnotsBack", spec := "knotsBack", unfollowed := true, recurses := true, apart := false, narrowed := true }
def KnotsBackUptoSaid : Prop := knotsBackUptoRow.holds Try.pinned (OpenSpec.upto knotsBackSpec)

/-- 'steeninglaw11.KnotsOrder', WHERE WHAT IT READS IS OF BULK AT MOST 1048576: true; the input reads as it did. -/
def knotsOrderUptoRow : OpenClaim := { program := "ytkkiipjfbebipaa", sum := "210eb4c564e09faafeb0f1764bb29d1b8075b4a224bd1ec06cff7885f44a6068", func := "steening/steeninglaw11.KnotsOrder", spec := "knotsOrder", unfollowed := true, recurses := true, apart := false, narrowed := true }
def KnotsOrderUptoSaid : Prop := knotsOrderUptoRow.holds Try.pinned (OpenSpec.upto knotsOrderSpec)

/-- 'steeninglaw11.KnotsNothing', WHERE WHAT IT READS IS OF BULK AT MOST 1048576: true; the input reads as it did. -/
def knotsNothingUptoRow : OpenClaim := { program := "ytkkiipjfbebipaa", sum := "210eb4c564e09faafeb0f1764bb29d1b8075b4a224bd1ec06cff7885f44a6068", func := "steening/steeninglaw11.KnotsNothing", spec := "knotsNothing", unfollowed := true, recurses := true, apart := false, narrowed := true }
def KnotsNothingUptoSaid : Prop := knotsNothingUptoRow.holds Try.pinned (OpenSpec.upto knotsNothingSpec)

/-- 'steeninglaw11.KnotsTie', WHERE WHAT IT READS IS OF BULK AT MOST 1048576: true; the input reads as it did. -/
def knotsTieUptoRow : OpenClaim := { program := "ytkkiipjfbebipaa", sum := "210eb4c564e09faafeb0f1764bb29d1b8075b4a224bd1ec06cff7885f44a6068", func := "steening/steeninglaw11.KnotsTie", spec := "knotsTie", unfollowed := true, recurses := true, apart := false, narrowed := true }
def KnotsTieUptoSaid : Prop := knotsTieUptoRow.holds Try.pinned (OpenSpec.upto knotsTieSpec)

/-- 'steeninglaw11.KnotsSure', WHERE WHAT IT READS IS OF BULK AT MOST 1048576: true; the input reads as it did. -/
def knotsSureUptoRow : OpenClaim := { program := "ytkkiipjfbebipaa", sum := "210eb4c564e09faafeb0f1764bb29d1b8075b4a224bd1ec06cff7885f44a6068", func := "steening/steeninglaw11.KnotsSure", spec := "knotsSure", unfollowed := true, recurses := true, apart := false, narrowed := true }
def KnotsSureUptoSaid : Prop := knotsSureUptoRow.holds Try.pinned (OpenSpec.upto knotsSureSpec)

/-- 'steeninglaw11.KnotsRight', WHERE WHAT IT READS IS OF BULK AT MOST 1048576: true; the input reads as it did. -/
def knotsRightUptoRow : OpenClaim := { program := "ytkkiipjfbebipaa", sum := "210eb4c564e09faafeb0f1764bb29d1b8075b4a224bd1ec06cff7885f44a6068", func := "steening/steeninglaw11.KnotsRight", spec := "knotsRight", unfollowed := true, recurses := true, apart := false, narrowed := true }
def KnotsRightUptoSaid : Prop := knotsRightUptoRow.holds Try.pinned (OpenSpec.upto knotsRightSpec)

/-- 'steeninglaw11.KnotsEach', WHERE WHAT IT READS IS OF BULK AT MOST 1048576: true; the input reads as it did. -/
def knotsEachUptoRow : OpenClaim := { program := "ytkkiipjfbebipaa", sum := "210eb4c564e09faafeb0f1764bb29d1b8075b4a224bd1ec06cff7885f44a6068", func := "steening/steeninglaw11.KnotsEach", spec := "knotsEach", unfollowed := true, recurses := true, apart := false, narrowed := true }
def KnotsEachUptoSaid : Prop := knotsEachUptoRow.holds Try.pinned (OpenSpec.upto knotsEachSpec)

end Rows
end Go.Proofs.Ytkkiipjfbebipaa
