/-
  NARROWER THAN 'FOR EVERY INPUT', by the rows' own cells (each row's printed sentence says how): LogChecksAsSpecified: laid · LogGrowsAsSpecified: laid · LogStaysRight: laid · LogChainBinds: laid · LogSealsHold: laid · LogCodes: laid.
  DERIVED. THE GIVEN ROWS OF THIS SEAT. 6 by the template 'for every input the law returns true; each argument reads behind the call as it read before'; 0 by the template 'total and deterministic' (their statements: YtopnlllipkockaaDoorTotals.lean).
  GIVEN WITH THE SEED: the statements are not yours to turn. If you find one false, say at which input.
  Laid BY PROGRAM, IN A SANDBOX (cutbox-rows.mjs): the forced cells as the released guide's own fill.sh prints them over the translation deb2151ec63d360d… (all of the seat's roots in one cut). By AI agents, Wed Nov 11 2026. No macro, syntax, notation, axiom, sorry.
-/
import Derived.Test.YtopnlllipkockaaDoorChecked
import GoSem.Claim
import GoSem.ClaimJoined
import GoSem.ClaimMapViews
import Derived.JoinedTies
import Derived.KernelRfl
namespace Go.Proofs.YtopnlllipkockaaDoor
/- THE CELL 'sum', in the pinned program and in every row, IS THE sha256 OF THE DUMP (.gsa) THAT YtopnlllipkockaaDoorProg.lean LOADS. Nothing in Lean hashes anything: it is a label: what it is worth is what the hold of that sum in a sandbox is worth. -/
noncomputable def Tryd.pinned : Pinned := { name := "ytopnlllipkockaadoor", sum := "deb2151ec63d360d9f9d619c7e73eeebfe884f3b04e3ee5cf334fc1d4e0b3a4b", checked := Tryd.checked }
namespace Rows
def none {H : Type} : Left H := { results := [], args := [] }

/- WHAT THE LISTED PACKAGE-LEVEL VARIABLES READ AS WHEN THE CALL BEGINS. Each datum BY PROGRAM (the guide's laid-datum.mjs) off the statement by which the dump's own 'gosem.cut.vars' lays the variable. In a bare row this is a premise. The card (YtopnlllipkockaaDoorCards.lean) ties it to the program's text. -/
def laid_simulacrum_simulacrumref02_constants {H : Type} : DataW H := .agg [.lit (.int .u32 1116352408), .lit (.int .u32 1899447441), .lit (.int .u32 3049323471), .lit (.int .u32 3921009573), .lit (.int .u32 961987163), .lit (.int .u32 1508970993), .lit (.int .u32 2453635748), .lit (.int .u32 2870763221), .lit (.int .u32 3624381080), .lit (.int .u32 310598401), .lit (.int .u32 607225278), .lit (.int .u32 1426881987), .lit (.int .u32 1925078388), .lit (.int .u32 2162078206), .lit (.int .u32 2614888103), .lit (.int .u32 3248222580), .lit (.int .u32 3835390401), .lit (.int .u32 4022224774), .lit (.int .u32 264347078), .lit (.int .u32 604807628), .lit (.int .u32 770255983), .lit (.int .u32 1249150122), .lit (.int .u32 1555081692), .lit (.int .u32 1996064986), .lit (.int .u32 2554220882), .lit (.int .u32 2821834349), .lit (.int .u32 2952996808), .lit (.int .u32 3210313671), .lit (.int .u32 3336571891), .lit (.int .u32 3584528711), .lit (.int .u32 113926993), .lit (.int .u32 338241895), .lit (.int .u32 666307205), .lit (.int .u32 773529912), .lit (.int .u32 1294757372), .lit (.int .u32 1396182291), .lit (.int .u32 1695183700), .lit (.int .u32 1986661051), .lit (.int .u32 2177026350), .lit (.int .u32 2456956037), .lit (.int .u32 2730485921), .lit (.int .u32 2820302411), .lit (.int .u32 3259730800), .lit (.int .u32 3345764771), .lit (.int .u32 3516065817), .lit (.int .u32 3600352804), .lit (.int .u32 4094571909), .lit (.int .u32 275423344), .lit (.int .u32 430227734), .lit (.int .u32 506948616), .lit (.int .u32 659060556), .lit (.int .u32 883997877), .lit (.int .u32 958139571), .lit (.int .u32 1322822218), .lit (.int .u32 1537002063), .lit (.int .u32 1747873779), .lit (.int .u32 1955562222), .lit (.int .u32 2024104815), .lit (.int .u32 2227730452), .lit (.int .u32 2361852424), .lit (.int .u32 2428436474), .lit (.int .u32 2756734187), .lit (.int .u32 3204031479), .lit (.int .u32 3329325298)]
def laid_simulacrum_hash_constants {H : Type} : DataW H := .agg [.lit (.int .u32 1116352408), .lit (.int .u32 1899447441), .lit (.int .u32 3049323471), .lit (.int .u32 3921009573), .lit (.int .u32 961987163), .lit (.int .u32 1508970993), .lit (.int .u32 2453635748), .lit (.int .u32 2870763221), .lit (.int .u32 3624381080), .lit (.int .u32 310598401), .lit (.int .u32 607225278), .lit (.int .u32 1426881987), .lit (.int .u32 1925078388), .lit (.int .u32 2162078206), .lit (.int .u32 2614888103), .lit (.int .u32 3248222580), .lit (.int .u32 3835390401), .lit (.int .u32 4022224774), .lit (.int .u32 264347078), .lit (.int .u32 604807628), .lit (.int .u32 770255983), .lit (.int .u32 1249150122), .lit (.int .u32 1555081692), .lit (.int .u32 1996064986), .lit (.int .u32 2554220882), .lit (.int .u32 2821834349), .lit (.int .u32 2952996808), .lit (.int .u32 3210313671), .lit (.int .u32 3336571891), .lit (.int .u32 3584528711), .lit (.int .u32 113926993), .lit (.int .u32 338241895), .lit (.int .u32 666307205), .lit (.int .u32 773529912), .lit (.int .u32 1294757372), .lit (.int .u32 1396182291), .lit (.int .u32 1695183700), .lit (.int .u32 1986661051), .lit (.int .u32 2177026350), .lit (.int .u32 2456956037), .lit (.int .u32 2730485921), .lit (.int .u32 2820302411), .lit (.int .u32 3259730800), .lit (.int .u32 3345764771), .lit (.int .u32 3516065817), .lit (.int .u32 3600352804), .lit (.int .u32 4094571909), .lit (.int .u32 275423344), .lit (.int .u32 430227734), .lit (.int .u32 506948616), .lit (.int .u32 659060556), .lit (.int .u32 883997877), .lit (.int .u32 958139571), .lit (.int .u32 1322822218), .lit (.int .u32 1537002063), .lit (.int .u32 1747873779), .lit (.int .u32 1955562222), .lit (.int .u32 2024104815), .lit (.int .u32 2227730452), .lit (.int .u32 2361852424), .lit (.int .u32 2428436474), .lit (.int .u32 2756734187), .lit (.int .u32 3204031479), .lit (.int .u32 3329325298)]

/-- 'simulacrumlaw29.LogChecksAsSpecified': WHATEVER THE INPUT: true; the input reads as it did. -/
def logChecksAsSpecifiedSpec : ChangeSpec := { name := "logChecksAsSpecified", fn := fun _ => fun
  | [d1, d2, d3, d4] => { results := [.lit (.bool true)], args := [d1, d2, d3, d4] }
  | _ => none }
def logChecksAsSpecifiedRow : OpenClaim := { program := "ytopnlllipkockaadoor", sum := "deb2151ec63d360d9f9d619c7e73eeebfe884f3b04e3ee5cf334fc1d4e0b3a4b", func := "simulacrum/simulacrumlaw29.LogChecksAsSpecified", spec := "logChecksAsSpecified", unfollowed := true, recurses := true, named := ["simulacrum/hash.constants", "simulacrum/simulacrumref02.constants"], apart := false, laid := [("simulacrum/simulacrumref02.constants", laid_simulacrum_simulacrumref02_constants), ("simulacrum/hash.constants", laid_simulacrum_hash_constants)] }
def LogChecksAsSpecifiedSaid : Prop := logChecksAsSpecifiedRow.holds Tryd.pinned (OpenSpec.ofChange logChecksAsSpecifiedSpec)

/-- ITS FALSE NEIGHBOUR: 'it returns false'. Refute it at one input. -/
def logChecksAsSpecifiedWrong : ChangeSpec := { name := "logChecksAsSpecified", fn := fun _ => fun
  | [d1, d2, d3, d4] => { results := [.lit (.bool false)], args := [d1, d2, d3, d4] }
  | _ => none }
def LogChecksAsSpecifiedWrongFalsely : Prop := logChecksAsSpecifiedRow.holds Tryd.pinned (OpenSpec.ofChange logChecksAsSpecifiedWrong)

/-- 'simulacrumlaw29.LogGrowsAsSpecified': WHATEVER THE INPUT: true; the input reads as it did. -/
def logGrowsAsSpecifiedSpec : ChangeSpec := { name := "logGrowsAsSpecified", fn := fun _ => fun
  | [d1, d2, d3, d4] => { results := [.lit (.bool true)], args := [d1, d2, d3, d4] }
  | _ => none }
def logGrowsAsSpecifiedRow : OpenClaim := { program := "ytopnlllipkockaadoor", sum := "deb2151ec63d360d9f9d619c7e73eeebfe884f3b04e3ee5cf334fc1d4e0b3a4b", func := "simulacrum/simulacrumlaw29.LogGrowsAsSpecified", spec := "logGrowsAsSpecified", unfollowed := true, recurses := true, named := ["simulacrum/simulacrumref02.constants", "simulacrum/hash.constants"], apart := false, laid := [("simulacrum/simulacrumref02.constants", laid_simulacrum_simulacrumref02_constants), ("simulacrum/hash.constants", laid_simulacrum_hash_constants)] }
def LogGrowsAsSpecifiedSaid : Prop := logGrowsAsSpecifiedRow.holds Tryd.pinned (OpenSpec.ofChange logGrowsAsSpecifiedSpec)

/-- ITS FALSE NEIGHBOUR: 'it returns false'. Refute it at one input. -/
def logGrowsAsSpecifiedWrong : ChangeSpec := { name := "logGrowsAsSpecified", fn := fun _ => fun
  | [d1, d2, d3, d4] => { results := [.lit (.bool false)], args := [d1, d2, d3, d4] }
  | _ => none }
def LogGrowsAsSpecifiedWrongFalsely : Prop := logGrowsAsSpecifiedRow.holds Tryd.pinned (OpenSpec.ofChange logGrowsAsSpecifiedWrong)

/-- 'simulacrumlaw29.LogStaysRight': WHATEVER THE INPUT: true; the input reads as it did. -/
def logStaysRightSpec : ChangeSpec := { name := "logStaysRight", fn := fun _ => fun
  | [d1, d2, d3, d4] => { results := [.lit (.bool true)], args := [d1, d2, d3, d4] }
  | _ => none }
def logStaysRightRow : OpenClaim := { program := "ytopnlllipkockaadoor", sum := "deb2151ec63d360d9f9d619c7e73eeebfe884f3b04e3ee5cf334fc1d4e0b3a4b", func := "simulacrum/simulacrumlaw29.LogStaysRight", spec := "logStaysRight", unfollowed := true, recurses := true, named := ["simulacrum/hash.constants"], apart := false, laid := [("simulacrum/hash.constants", laid_simulacrum_hash_constants)] }
def LogStaysRightSaid : Prop := logStaysRightRow.holds Tryd.pinned (OpenSpec.ofChange logStaysRightSpec)

/-- ITS FALSE NEIGHBOUR: 'it returns false'. Refute it at one input. -/
def logStaysRightWrong : ChangeSpec := { name := "logStaysRight", fn := fun _ => fun
  | [d1, d2, d3, d4] => { results := [.lit (.bool false)], args := [d1, d2, d3, d4] }
  | _ => none }
def LogStaysRightWrongFalsely : Prop := logStaysRightRow.holds Tryd.pinned (OpenSpec.ofChange logStaysRightWrong)

/-- 'simulacrumlaw29.LogChainBinds': WHATEVER THE INPUT: true; the input reads as it did. -/
def logChainBindsSpec : ChangeSpec := { name := "logChainBinds", fn := fun _ => fun
  | [d1, d2, d3] => { results := [.lit (.bool true)], args := [d1, d2, d3] }
  | _ => none }
def logChainBindsRow : OpenClaim := { program := "ytopnlllipkockaadoor", sum := "deb2151ec63d360d9f9d619c7e73eeebfe884f3b04e3ee5cf334fc1d4e0b3a4b", func := "simulacrum/simulacrumlaw29.LogChainBinds", spec := "logChainBinds", unfollowed := true, recurses := true, named := ["simulacrum/simulacrumref02.constants", "simulacrum/hash.constants"], apart := false, laid := [("simulacrum/simulacrumref02.constants", laid_simulacrum_simulacrumref02_constants), ("simulacrum/hash.constants", laid_simulacrum_hash_constants)] }
def LogChainBindsSaid : Prop := logChainBindsRow.holds Tryd.pinned (OpenSpec.ofChange logChainBindsSpec)

/-- ITS FALSE NEIGHBOUR: 'it returns false'. Refute it at one input. -/
def logChainBindsWrong : ChangeSpec := { name := "logChainBinds", fn := fun _ => fun
  | [d1, d2, d3] => { results := [.lit (.bool false)], args := [d1, d2, d3] }
  | _ => none }
def LogChainBindsWrongFalsely : Prop := logChainBindsRow.holds Tryd.pinned (OpenSpec.ofChange logChainBindsWrong)

/-- 'simulacrumlaw29.LogSealsHold': WHATEVER THE INPUT: true; the input reads as it did. -/
def logSealsHoldSpec : ChangeSpec := { name := "logSealsHold", fn := fun _ => fun
  | [d1, d2, d3, d4, d5] => { results := [.lit (.bool true)], args := [d1, d2, d3, d4, d5] }
  | _ => none }
def logSealsHoldRow : OpenClaim := { program := "ytopnlllipkockaadoor", sum := "deb2151ec63d360d9f9d619c7e73eeebfe884f3b04e3ee5cf334fc1d4e0b3a4b", func := "simulacrum/simulacrumlaw29.LogSealsHold", spec := "logSealsHold", unfollowed := true, recurses := true, named := ["simulacrum/simulacrumref02.constants", "simulacrum/hash.constants"], apart := false, laid := [("simulacrum/simulacrumref02.constants", laid_simulacrum_simulacrumref02_constants), ("simulacrum/hash.constants", laid_simulacrum_hash_constants)] }
def LogSealsHoldSaid : Prop := logSealsHoldRow.holds Tryd.pinned (OpenSpec.ofChange logSealsHoldSpec)

/-- ITS FALSE NEIGHBOUR: 'it returns false'. Refute it at one input. -/
def logSealsHoldWrong : ChangeSpec := { name := "logSealsHold", fn := fun _ => fun
  | [d1, d2, d3, d4, d5] => { results := [.lit (.bool false)], args := [d1, d2, d3, d4, d5] }
  | _ => none }
def LogSealsHoldWrongFalsely : Prop := logSealsHoldRow.holds Tryd.pinned (OpenSpec.ofChange logSealsHoldWrong)

/-- 'simulacrumlaw29.LogCodes': WHATEVER THE INPUT: true; the input reads as it did. -/
def logCodesSpec : ChangeSpec := { name := "logCodes", fn := fun _ => fun
  | [d1, d2] => { results := [.lit (.bool true)], args := [d1, d2] }
  | _ => none }
def logCodesRow : OpenClaim := { program := "ytopnlllipkockaadoor", sum := "deb2151ec63d360d9f9d619c7e73eeebfe884f3b04e3ee5cf334fc1d4e0b3a4b", func := "simulacrum/simulacrumlaw29.LogCodes", spec := "logCodes", unfollowed := true, recurses := true, named := ["simulacrum/hash.constants", "simulacrum/simulacrumref02.constants"], apart := false, laid := [("simulacrum/simulacrumref02.constants", laid_simulacrum_simulacrumref02_constants), ("simulacrum/hash.constants", laid_simulacrum_hash_constants)] }
def LogCodesSaid : Prop := logCodesRow.holds Tryd.pinned (OpenSpec.ofChange logCodesSpec)

/-- ITS FALSE NEIGHBOUR: 'it returns false'. Refute it at one input. -/
def logCodesWrong : ChangeSpec := { name := "logCodes", fn := fun _ => fun
  | [d1, d2] => { results := [.lit (.bool false)], args := [d1, d2] }
  | _ => none }
def LogCodesWrongFalsely : Prop := logCodesRow.holds Tryd.pinned (OpenSpec.ofChange logCodesWrong)

/- THE SECOND FORM. 'bulk': how many values and letters a reading holds, each counted each time it is reached (what is shared counts as often as it is met; a slice's spare places count too). A statement '..UptoSaid' is the law's where the arguments, and the package variables that the reading takes, are together of bulk at most 1048576: NARROWER than '..Said'. Prove '..Said' where nothing that the law and all that it calls make is longer than what came in: it says more and counts as full. Else prove '..UptoSaid'. A law counts once. -/
mutual
def uptoBulk {H : Type} : DataW H → Nat
  | .lit (.string bytes) => bytes.length + 1
  | .lit _ => 1
  | .nil => 1
  | .ptr d => uptoBulk d + 1
  | .slice elems spare => uptoBulkAll elems + uptoBulkAll spare + 1
  | .agg parts => uptoBulkAll parts + 1
  | .iface _ d => uptoBulk d + 1
  | .map entries => uptoBulkEntries entries + 1
  | .held _ => 1
def uptoBulkAll {H : Type} : List (DataW H) → Nat
  | [] => 0
  | d :: r => uptoBulk d + uptoBulkAll r
def uptoBulkEntries {H : Type} : List (Lit × DataW H) → Nat
  | [] => 0
  | x :: r => uptoBulkEntry x + uptoBulkEntries r
def uptoBulkEntry {H : Type} : Lit × DataW H → Nat
  | (.string bytes, d) => bytes.length + uptoBulk d + 1
  | (_, d) => uptoBulk d + 1
 end
def uptoSmall : (H : Type) → List (DataW H) → Bool := fun _ ds => decide (uptoBulkAll ds ≤ 1048576)
def OpenSpec.upto (s : _root_.Go.ChangeSpec) : _root_.Go.OpenSpec := { _root_.Go.OpenSpec.ofChange s with cond := some uptoSmall }

/-- 'simulacrumlaw29.LogChecksAsSpecified', WHERE WHAT IT READS IS OF BULK AT MOST 1048576: true; the input reads as it did. -/
def logChecksAsSpecifiedUptoRow : OpenClaim := { program := "ytopnlllipkockaadoor", sum := "deb2151ec63d360d9f9d619c7e73eeebfe884f3b04e3ee5cf334fc1d4e0b3a4b", func := "simulacrum/simulacrumlaw29.LogChecksAsSpecified", spec := "logChecksAsSpecified", unfollowed := true, recurses := true, named := ["simulacrum/hash.constants", "simulacrum/simulacrumref02.constants"], apart := false, laid := [("simulacrum/simulacrumref02.constants", laid_simulacrum_simulacrumref02_constants), ("simulacrum/hash.constants", laid_simulacrum_hash_constants)], narrowed := true }
def LogChecksAsSpecifiedUptoSaid : Prop := logChecksAsSpecifiedUptoRow.holds Tryd.pinned (OpenSpec.upto logChecksAsSpecifiedSpec)

/-- 'simulacrumlaw29.LogGrowsAsSpecified', WHERE WHAT IT READS IS OF BULK AT MOST 1048576: true; the input reads as it did. -/
def logGrowsAsSpecifiedUptoRow : OpenClaim := { program := "ytopnlllipkockaadoor", sum := "deb2151ec63d360d9f9d619c7e73eeebfe884f3b04e3ee5cf334fc1d4e0b3a4b", func := "simulacrum/simulacrumlaw29.LogGrowsAsSpecified", spec := "logGrowsAsSpecified", unfollowed := true, recurses := true, named := ["simulacrum/simulacrumref02.constants", "simulacrum/hash.constants"], apart := false, laid := [("simulacrum/simulacrumref02.constants", laid_simulacrum_simulacrumref02_constants), ("simulacrum/hash.constants", laid_simulacrum_hash_constants)], narrowed := true }
def LogGrowsAsSpecifiedUptoSaid : Prop := logGrowsAsSpecifiedUptoRow.holds Tryd.pinned (OpenSpec.upto logGrowsAsSpecifiedSpec)

/-- 'simulacrumlaw29.LogStaysRight', WHERE WHAT IT READS IS OF BULK AT MOST 1048576: true; the input reads as it did. -/
def logStaysRightUptoRow : OpenClaim := { program := "ytopnlllipkockaadoor", sum := "deb2151ec63d360d9f9d619c7e73eeebfe884f3b04e3ee5cf334fc1d4e0b3a4b", func := "simulacrum/simulacrumlaw29.LogStaysRight", spec := "logStaysRight", unfollowed := true, recurses := true, named := ["simulacrum/hash.constants"], apart := false, laid := [("simulacrum/hash.constants", laid_simulacrum_hash_constants)], narrowed := true }
def LogStaysRightUptoSaid : Prop := logStaysRightUptoRow.holds Tryd.pinned (OpenSpec.upto logStaysRightSpec)

/-- 'simulacrumlaw29.LogChainBinds', WHERE WHAT IT READS IS OF BULK AT MOST 1048576: true; the input reads as it did. -/
def logChainBindsUptoRow : OpenClaim := { program := "ytopnlllipkockaadoor", sum := "deb2151ec63d360d9f9d619c7e73eeebfe884f3b04e3ee5cf334fc1d4e0b3a4b", func := "simulacrum/simulacrumlaw29.LogChainBinds", spec := "logChainBinds", unfollowed := true, recurses := true, named := ["simulacrum/simulacrumref02.constants", "simulacrum/hash.constants"], apart := false, laid := [("simulacrum/simulacrumref02.constants", laid_simulacrum_simulacrumref02_constants), ("simulacrum/hash.constants", laid_simulacrum_hash_constants)], narrowed := true }
def LogChainBindsUptoSaid : Prop := logChainBindsUptoRow.holds Tryd.pinned (OpenSpec.upto logChainBindsSpec)

/-- 'simulacrumlaw29.LogSealsHold', WHERE WHAT IT READS IS OF BULK AT MOST 1048576: true; the input reads as it did. -/
def logSealsHoldUptoRow : OpenClaim := { program := "ytopnlllipkockaadoor", sum := "deb2151ec63d360d9f9d619c7e73eeebfe884f3b04e3ee5cf334fc1d4e0b3a4b", func := "simulacrum/simulacrumlaw29.LogSealsHold", spec := "logSealsHold", unfollowed := true, recurses := true, named := ["simulacrum/simulacrumref02.constants", "simulacrum/hash.constants"], apart := false, laid := [("simulacrum/simulacrumref02.constants", laid_simulacrum_simulacrumref02_constants), ("simulacrum/hash.constants", laid_simulacrum_hash_constants)], narrowed := true }
def LogSealsHoldUptoSaid : Prop := logSealsHoldUptoRow.holds Tryd.pinned (OpenSpec.upto logSealsHoldSpec)

/-- 'simulacrumlaw29.LogCodes', WHERE WHAT IT READS IS OF BULK AT MOST 1048576: true; the input reads as it did. -/
def logCodesUptoRow : OpenClaim := { program := "ytopnlllipkockaadoor", sum := "deb2151ec63d360d9f9d619c7e73eeebfe884f3b04e3ee5cf334fc1d4e0b3a4b", func := "simulacrum/simulacrumlaw29.LogCodes", spec := "logCodes", unfollowed := true, recurses := true, named := ["simulacrum/hash.constants", "simulacrum/simulacrumref02.constants"], apart := false, laid := [("simulacrum/simulacrumref02.constants", laid_simulacrum_simulacrumref02_constants), ("simulacrum/hash.constants", laid_simulacrum_hash_constants)], narrowed := true }
def LogCodesUptoSaid : Prop := logCodesUptoRow.holds Tryd.pinned (OpenSpec.upto logCodesSpec)

end Rows
end Go.Proofs.YtopnlllipkockaaDoor
