/-
  No cell of these rows narrows 'for every input' (looked for: loops, veiled, ifaces, maps, wideKeys, modest, calm, conditions, laid).
  DERIVED. THE GIVEN ROWS OF THIS SEAT. 7 by the template 'for every input the law returns true; each argument reads behind the call as it read before'; 0 by the template 'total and deterministic' (their statements: YtnjpdhekeffpnaaTotals.lean).
  GIVEN WITH THE SEED: the statements are not yours to turn. If you find one false, say at which input.
  Laid BY PROGRAM, IN A SANDBOX (cutbox-rows.mjs): the forced cells as the released guide's own fill.sh prints them over the translation 91014c0782921845… (all of the seat's roots in one cut). By AI agents, Wed Nov 11 2026. No macro, syntax, notation, axiom, sorry.
-/
import Derived.Test.YtnjpdhekeffpnaaChecked
import GoSem.Claim
import GoSem.ClaimJoined
import GoSem.ClaimMapViews
import Derived.JoinedTies
import Derived.KernelRfl
namespace Go.Proofs.Ytnjpdhekeffpnaa
/- THE CELL 'sum', in the pinned program and in every row, IS THE sha256 OF THE DUMP (.gsa) THAT YtnjpdhekeffpnaaProg.lean LOADS. Nothing in Lean hashes anything: it is a label: what it is worth is what the hold of that sum in a sandbox is worth. -/
noncomputable def Try.pinned : Pinned := { name := "ytnjpdhekeffpnaa", sum := "91014c0782921845f257e64f56e859037fc5c0acad14e406218ec5ba0c905e63", checked := Try.checked }
namespace Rows
def none {H : Type} : Left H := { results := [], args := [] }

/-- 'bobstaylaw05.RxCompiles': WHATEVER THE INPUT: true; the input reads as it did. -/
def rxCompilesSpec : ChangeSpec := { name := "rxCompiles", fn := fun _ => fun
  | [d] => { results := [.lit (.bool true)], args := [d] }
  | _ => none }
def rxCompilesRow : OpenClaim := { program := "ytnjpdhekeffpnaa", sum := "91014c0782921845f257e64f56e859037fc5c0acad14e406218ec5ba0c905e63", func := "bobstay/bobstaylaw05.RxCompiles", spec := "rxCompiles", inPlace := ["internal/bytealg.IndexByteString", "sync/atomic.LoadUint32", "(*internal/sync.Mutex).Lock", "internal/race.Disable", "sync/atomic.CompareAndSwapInt32", "internal/race.Enable", "internal/race.Acquire", "(*internal/sync.Mutex).lockSlow", "internal/sync.runtime_canSpin", "internal/sync.runtime_doSpin", "internal/sync.throw", "internal/sync.runtime_nanotime", "internal/sync.runtime_SemacquireMutex", "sync/atomic.AddInt32", "(*internal/sync.Mutex).Unlock", "internal/race.ReleaseMerge", "(*internal/sync.Mutex).unlockSlow", "internal/sync.fatal", "internal/sync.runtime_Semrelease", "sync/atomic.StoreUint32", "internal/abi.NoEscape"], unfollowed := true, recurses := true, apart := false }
def RxCompilesSaid : Prop := rxCompilesRow.holds Try.pinned (OpenSpec.ofChange rxCompilesSpec)

/-- ITS FALSE NEIGHBOUR: 'it returns false'. Refute it at one input. -/
def rxCompilesWrong : ChangeSpec := { name := "rxCompiles", fn := fun _ => fun
  | [d] => { results := [.lit (.bool false)], args := [d] }
  | _ => none }
def RxCompilesWrongFalsely : Prop := rxCompilesRow.holds Try.pinned (OpenSpec.ofChange rxCompilesWrong)

/-- 'bobstaylaw05.RxFinds': WHATEVER THE INPUT: true; the input reads as it did. -/
def rxFindsSpec : ChangeSpec := { name := "rxFinds", fn := fun _ => fun
  | [d1, d2, d3] => { results := [.lit (.bool true)], args := [d1, d2, d3] }
  | _ => none }
def rxFindsRow : OpenClaim := { program := "ytnjpdhekeffpnaa", sum := "91014c0782921845f257e64f56e859037fc5c0acad14e406218ec5ba0c905e63", func := "bobstay/bobstaylaw05.RxFinds", spec := "rxFinds", inPlace := ["internal/bytealg.IndexByteString", "sync/atomic.LoadUint32", "(*internal/sync.Mutex).Lock", "internal/race.Disable", "sync/atomic.CompareAndSwapInt32", "internal/race.Enable", "internal/race.Acquire", "(*internal/sync.Mutex).lockSlow", "internal/sync.runtime_canSpin", "internal/sync.runtime_doSpin", "internal/sync.throw", "internal/sync.runtime_nanotime", "internal/sync.runtime_SemacquireMutex", "sync/atomic.AddInt32", "(*internal/sync.Mutex).Unlock", "internal/race.ReleaseMerge", "(*internal/sync.Mutex).unlockSlow", "internal/sync.fatal", "internal/sync.runtime_Semrelease", "sync/atomic.StoreUint32", "internal/abi.NoEscape"], unfollowed := true, recurses := true, apart := false }
def RxFindsSaid : Prop := rxFindsRow.holds Try.pinned (OpenSpec.ofChange rxFindsSpec)

/-- ITS FALSE NEIGHBOUR: 'it returns false'. Refute it at one input. -/
def rxFindsWrong : ChangeSpec := { name := "rxFinds", fn := fun _ => fun
  | [d1, d2, d3] => { results := [.lit (.bool false)], args := [d1, d2, d3] }
  | _ => none }
def RxFindsWrongFalsely : Prop := rxFindsRow.holds Try.pinned (OpenSpec.ofChange rxFindsWrong)

/-- 'bobstaylaw05.RxWays': WHATEVER THE INPUT: true; the input reads as it did. -/
def rxWaysSpec : ChangeSpec := { name := "rxWays", fn := fun _ => fun
  | [d1, d2, d3] => { results := [.lit (.bool true)], args := [d1, d2, d3] }
  | _ => none }
def rxWaysRow : OpenClaim := { program := "ytnjpdhekeffpnaa", sum := "91014c0782921845f257e64f56e859037fc5c0acad14e406218ec5ba0c905e63", func := "bobstay/bobstaylaw05.RxWays", spec := "rxWays", inPlace := ["internal/bytealg.IndexByteString", "sync/atomic.LoadUint32", "(*internal/sync.Mutex).Lock", "internal/race.Disable", "sync/atomic.CompareAndSwapInt32", "internal/race.Enable", "internal/race.Acquire", "(*internal/sync.Mutex).lockSlow", "internal/sync.runtime_canSpin", "internal/sync.runtime_doSpin", "internal/sync.throw", "internal/sync.runtime_nanotime", "internal/sync.runtime_SemacquireMutex", "sync/atomic.AddInt32", "(*internal/sync.Mutex).Unlock", "internal/race.ReleaseMerge", "(*internal/sync.Mutex).unlockSlow", "internal/sync.fatal", "internal/sync.runtime_Semrelease", "sync/atomic.StoreUint32", "internal/abi.NoEscape"], unfollowed := true, recurses := true, apart := false }
def RxWaysSaid : Prop := rxWaysRow.holds Try.pinned (OpenSpec.ofChange rxWaysSpec)

/-- ITS FALSE NEIGHBOUR: 'it returns false'. Refute it at one input. -/
def rxWaysWrong : ChangeSpec := { name := "rxWays", fn := fun _ => fun
  | [d1, d2, d3] => { results := [.lit (.bool false)], args := [d1, d2, d3] }
  | _ => none }
def RxWaysWrongFalsely : Prop := rxWaysRow.holds Try.pinned (OpenSpec.ofChange rxWaysWrong)

/-- 'bobstaylaw05.RxFirst': WHATEVER THE INPUT: true; the input reads as it did. -/
def rxFirstSpec : ChangeSpec := { name := "rxFirst", fn := fun _ => fun
  | [d1, d2, d3] => { results := [.lit (.bool true)], args := [d1, d2, d3] }
  | _ => none }
def rxFirstRow : OpenClaim := { program := "ytnjpdhekeffpnaa", sum := "91014c0782921845f257e64f56e859037fc5c0acad14e406218ec5ba0c905e63", func := "bobstay/bobstaylaw05.RxFirst", spec := "rxFirst", inPlace := ["internal/bytealg.IndexByteString", "sync/atomic.LoadUint32", "(*internal/sync.Mutex).Lock", "internal/race.Disable", "sync/atomic.CompareAndSwapInt32", "internal/race.Enable", "internal/race.Acquire", "(*internal/sync.Mutex).lockSlow", "internal/sync.runtime_canSpin", "internal/sync.runtime_doSpin", "internal/sync.throw", "internal/sync.runtime_nanotime", "internal/sync.runtime_SemacquireMutex", "sync/atomic.AddInt32", "(*internal/sync.Mutex).Unlock", "internal/race.ReleaseMerge", "(*internal/sync.Mutex).unlockSlow", "internal/sync.fatal", "internal/sync.runtime_Semrelease", "sync/atomic.StoreUint32", "internal/abi.NoEscape"], unfollowed := true, recurses := true, apart := false }
def RxFirstSaid : Prop := rxFirstRow.holds Try.pinned (OpenSpec.ofChange rxFirstSpec)

/-- ITS FALSE NEIGHBOUR: 'it returns false'. Refute it at one input. -/
def rxFirstWrong : ChangeSpec := { name := "rxFirst", fn := fun _ => fun
  | [d1, d2, d3] => { results := [.lit (.bool false)], args := [d1, d2, d3] }
  | _ => none }
def RxFirstWrongFalsely : Prop := rxFirstRow.holds Try.pinned (OpenSpec.ofChange rxFirstWrong)

/-- 'bobstaylaw05.RxNobody': WHATEVER THE INPUT: true; the input reads as it did. -/
def rxNobodySpec : ChangeSpec := { name := "rxNobody", fn := fun _ => fun
  | [d1, d2] => { results := [.lit (.bool true)], args := [d1, d2] }
  | _ => none }
def rxNobodyRow : OpenClaim := { program := "ytnjpdhekeffpnaa", sum := "91014c0782921845f257e64f56e859037fc5c0acad14e406218ec5ba0c905e63", func := "bobstay/bobstaylaw05.RxNobody", spec := "rxNobody", inPlace := ["internal/bytealg.IndexByteString", "sync/atomic.LoadUint32", "(*internal/sync.Mutex).Lock", "internal/race.Disable", "sync/atomic.CompareAndSwapInt32", "internal/race.Enable", "internal/race.Acquire", "(*internal/sync.Mutex).lockSlow", "internal/sync.runtime_canSpin", "internal/sync.runtime_doSpin", "internal/sync.throw", "internal/sync.runtime_nanotime", "internal/sync.runtime_SemacquireMutex", "sync/atomic.AddInt32", "(*internal/sync.Mutex).Unlock", "internal/race.ReleaseMerge", "(*internal/sync.Mutex).unlockSlow", "internal/sync.fatal", "internal/sync.runtime_Semrelease", "sync/atomic.StoreUint32", "internal/abi.NoEscape"], unfollowed := true, recurses := true, apart := false }
def RxNobodySaid : Prop := rxNobodyRow.holds Try.pinned (OpenSpec.ofChange rxNobodySpec)

/-- ITS FALSE NEIGHBOUR: 'it returns false'. Refute it at one input. -/
def rxNobodyWrong : ChangeSpec := { name := "rxNobody", fn := fun _ => fun
  | [d1, d2] => { results := [.lit (.bool false)], args := [d1, d2] }
  | _ => none }
def RxNobodyWrongFalsely : Prop := rxNobodyRow.holds Try.pinned (OpenSpec.ofChange rxNobodyWrong)

/-- 'bobstaylaw05.RxReplaces': WHATEVER THE INPUT: true; the input reads as it did. -/
def rxReplacesSpec : ChangeSpec := { name := "rxReplaces", fn := fun _ => fun
  | [d1, d2] => { results := [.lit (.bool true)], args := [d1, d2] }
  | _ => none }
def rxReplacesRow : OpenClaim := { program := "ytnjpdhekeffpnaa", sum := "91014c0782921845f257e64f56e859037fc5c0acad14e406218ec5ba0c905e63", func := "bobstay/bobstaylaw05.RxReplaces", spec := "rxReplaces", inPlace := ["internal/bytealg.IndexByteString", "sync/atomic.LoadUint32", "(*internal/sync.Mutex).Lock", "internal/race.Disable", "sync/atomic.CompareAndSwapInt32", "internal/race.Enable", "internal/race.Acquire", "(*internal/sync.Mutex).lockSlow", "internal/sync.runtime_canSpin", "internal/sync.runtime_doSpin", "internal/sync.throw", "internal/sync.runtime_nanotime", "internal/sync.runtime_SemacquireMutex", "sync/atomic.AddInt32", "(*internal/sync.Mutex).Unlock", "internal/race.ReleaseMerge", "(*internal/sync.Mutex).unlockSlow", "internal/sync.fatal", "internal/sync.runtime_Semrelease", "sync/atomic.StoreUint32", "internal/abi.NoEscape"], unfollowed := true, recurses := true, apart := false }
def RxReplacesSaid : Prop := rxReplacesRow.holds Try.pinned (OpenSpec.ofChange rxReplacesSpec)

/-- ITS FALSE NEIGHBOUR: 'it returns false'. Refute it at one input. -/
def rxReplacesWrong : ChangeSpec := { name := "rxReplaces", fn := fun _ => fun
  | [d1, d2] => { results := [.lit (.bool false)], args := [d1, d2] }
  | _ => none }
def RxReplacesWrongFalsely : Prop := rxReplacesRow.holds Try.pinned (OpenSpec.ofChange rxReplacesWrong)

/-- 'bobstaylaw05.RxQuoted': WHATEVER THE INPUT: true; the input reads as it did. -/
def rxQuotedSpec : ChangeSpec := { name := "rxQuoted", fn := fun _ => fun
  | [d1, d2] => { results := [.lit (.bool true)], args := [d1, d2] }
  | _ => none }
def rxQuotedRow : OpenClaim := { program := "ytnjpdhekeffpnaa", sum := "91014c0782921845f257e64f56e859037fc5c0acad14e406218ec5ba0c905e63", func := "bobstay/bobstaylaw05.RxQuoted", spec := "rxQuoted", inPlace := ["internal/bytealg.IndexByteString", "sync/atomic.LoadUint32", "(*internal/sync.Mutex).Lock", "internal/race.Disable", "sync/atomic.CompareAndSwapInt32", "internal/race.Enable", "internal/race.Acquire", "(*internal/sync.Mutex).lockSlow", "internal/sync.runtime_canSpin", "internal/sync.runtime_doSpin", "internal/sync.throw", "internal/sync.runtime_nanotime", "internal/sync.runtime_SemacquireMutex", "sync/atomic.AddInt32", "(*internal/sync.Mutex).Unlock", "internal/race.ReleaseMerge", "(*internal/sync.Mutex).unlockSlow", "internal/sync.fatal", "internal/sync.runtime_Semrelease", "sync/atomic.StoreUint32", "internal/abi.NoEscape"], unfollowed := true, recurses := true, apart := false }
def RxQuotedSaid : Prop := rxQuotedRow.holds Try.pinned (OpenSpec.ofChange rxQuotedSpec)

/-- ITS FALSE NEIGHBOUR: 'it returns false'. Refute it at one input. -/
def rxQuotedWrong : ChangeSpec := { name := "rxQuoted", fn := fun _ => fun
  | [d1, d2] => { results := [.lit (.bool false)], args := [d1, d2] }
  | _ => none }
def RxQuotedWrongFalsely : Prop := rxQuotedRow.holds Try.pinned (OpenSpec.ofChange rxQuotedWrong)

/- THE SECOND FORM. 'bulk': how many values and letters a reading holds, each counted each time it is reached (what is shared counts as often as it is met; a slice's spare places count too). A statement '..UptoSaid' is the law's where the arguments, and the package variables that the reading takes, are together of bulk at most 1048576: NARROWER than '..Said'. Prove '..Said' where nothing that the law and all that it calls make is longer than what came in: it says more and counts as full. Else prove '..UptoSaid'. A law counts once. -/
mutual
def uptoBulk {H : Type} : DataW H → Nat
  | .lit (.string bytes) => bytes.length + 1
  | .lit _ => 1
  | .nil => 1
  | .ptr d => uptoBulk d + 1
  | .slice elems spare => uptoBulkAll elems + uptoBulkAll spare + 1
  | .agg parts => uptoBulkAll parts + 1
  | .iface _ d => uptoBulk d + 1
  | .map entries => uptoBulkEntries entries + 1
  | .held _ => 1
def uptoBulkAll {H : Type} : List (DataW H) → Nat
  | [] => 0
  | d :: r => uptoBulk d + uptoBulkAll r
def uptoBulkEntries {H : Type} : List (Lit × DataW H) → Nat
  | [] => 0
  | x :: r => uptoBulkEntry x + uptoBulkEntries r
def uptoBulkEntry {H : Type} : Lit × DataW H → Nat
  | (.string bytes, d) => bytes.length + uptoBulk d + 1
  | (_, d) => uptoBulk d + 1
 end
def uptoSmall : (H : Type) → List (DataW H) → Bool := fun _ ds => decide (uptoBulkAll ds ≤ 1048576)
def OpenSpec.upto (s : _root_.Go.ChangeSpec) : _root_.Go.OpenSpec := { _root_.Go.OpenSpec.ofChange s with cond := some uptoSmall }

/-- 'bobstaylaw05.RxCompiles', WHERE WHAT IT READS IS OF BULK AT MOST 1048576: true; the input reads as it did. -/
def rxCompilesUptoRow : OpenClaim := { program := "ytnjpdhekeffpnaa", sum := "91014c0782921845f257e64f56e859037fc5c0acad14e406218ec5ba0c905e63", func := "bobstay/bobstaylaw05.RxCompiles", spec := "rxCompiles", inPlace := ["internal/bytealg.IndexByteString", "sync/atomic.LoadUint32", "(*internal/sync.Mutex).Lock", "internal/race.Disable", "sync/atomic.CompareAndSwapInt32", "internal/race.Enable", "internal/race.Acquire", "(*internal/sync.Mutex).lockSlow", "internal/sync.runtime_canSpin", "internal/sync.runtime_doSpin", "internal/sync.throw", "internal/sync.runtime_nanotime", "internal/sync.runtime_SemacquireMutex", "sync/atomic.AddInt32", "(*internal/sync.Mutex).Unlock", "internal/race.ReleaseMerge", "(*internal/sync.Mutex).unlockSlow", "internal/sync.fatal", "internal/sync.runtime_Semrelease", "sync/atomic.StoreUint32", "internal/abi.NoEscape"], unfollowed := true, recurses := true, apart := false, narrowed := true }
def RxCompilesUptoSaid : Prop := rxCompilesUptoRow.holds Try.pinned (OpenSpec.upto rxCompilesSpec)

/-- 'bobstaylaw05.RxFinds', WHERE WHAT IT READS IS OF BULK AT MOST 1048576: true; the input reads as it did. -/
def rxFindsUptoRow : OpenClaim := { program := "ytnjpdhekeffpnaa", sum := "91014c0782921845f257e64f56e859037fc5c0acad14e406218ec5ba0c905e63", func := "bobstay/bobstaylaw05.RxFinds", spec := "rxFinds", inPlace := ["internal/bytealg.IndexByteString", "sync/atomic.LoadUint32", "(*internal/sync.Mutex).Lock", "internal/race.Disable", "sync/atomic.CompareAndSwapInt32", "internal/race.Enable", "internal/race.Acquire", "(*internal/sync.Mutex).lockSlow", "internal/sync.runtime_canSpin", "internal/sync.runtime_doSpin", "internal/sync.throw", "internal/sync.runtime_nanotime", "internal/sync.runtime_SemacquireMutex", "sync/atomic.AddInt32", "(*internal/sync.Mutex).Unlock", "internal/race.ReleaseMerge", "(*internal/sync.Mutex).unlockSlow", "internal/sync.fatal", "internal/sync.runtime_Semrelease", "sync/atomic.StoreUint32", "internal/abi.NoEscape"], unfollowed := true, recurses := true, apart := false, narrowed := true }
def RxFindsUptoSaid : Prop := rxFindsUptoRow.holds Try.pinned (OpenSpec.upto rxFindsSpec)

/-- 'bobstaylaw05.RxWays', WHERE WHAT IT READS IS OF BULK AT MOST 1048576: true; the input reads as it did. -/
def rxWaysUptoRow : OpenClaim := { program := "ytnjpdhekeffpnaa", sum := "91014c0782921845f257e64f56e859037fc5c0acad14e406218ec5ba0c905e63", func := "bobstay/bobstaylaw05.RxWays", spec := "rxWays", inPlace := ["internal/bytealg.IndexByteString", "sync/atomic.LoadUint32", "(*internal/sync.Mutex).Lock", "internal/race.Disable", "sync/atomic.CompareAndSwapInt32", "internal/race.Enable", "internal/race.Acquire", "(*internal/sync.Mutex).lockSlow", "internal/sync.runtime_canSpin", "internal/sync.runtime_doSpin", "internal/sync.throw", "internal/sync.runtime_nanotime", "internal/sync.runtime_SemacquireMutex", "sync/atomic.AddInt32", "(*internal/sync.Mutex).Unlock", "internal/race.ReleaseMerge", "(*internal/sync.Mutex).unlockSlow", "internal/sync.fatal", "internal/sync.runtime_Semrelease", "sync/atomic.StoreUint32", "internal/abi.NoEscape"], unfollowed := true, recurses := true, apart := false, narrowed := true }
def RxWaysUptoSaid : Prop := rxWaysUptoRow.holds Try.pinned (OpenSpec.upto rxWaysSpec)

/-- 'bobstaylaw05.RxFirst', WHERE WHAT IT READS IS OF BULK AT MOST 1048576: true; the input reads as it did. -/
def rxFirstUptoRow : OpenClaim := { program := "ytnjpdhekeffpnaa", sum := "91014c0782921845f257e64f56e859037fc5c0acad14e406218ec5ba0c905e63", func := "bobstay/bobstaylaw05.RxFirst", spec := "rxFirst", inPlace := ["internal/bytealg.IndexByteString", "sync/atomic.LoadUint32", "(*internal/sync.Mutex).Lock", "internal/race.Disable", "sync/atomic.CompareAndSwapInt32", "internal/race.Enable", "internal/race.Acquire", "(*internal/sync.Mutex).lockSlow", "internal/sync.runtime_canSpin", "internal/sync.runtime_doSpin", "internal/sync.throw", "internal/sync.runtime_nanotime", "internal/sync.runtime_SemacquireMutex", "sync/atomic.AddInt32", "(*internal/sync.Mutex).Unlock", "internal/race.ReleaseMerge", "(*internal/sync.Mutex).unlockSlow", "internal/sync.fatal", "internal/sync.runtime_Semrelease", "sync/atomic.StoreUint32", "internal/abi.NoEscape"], unfollowed := true, recurses := true, apart := false, narrowed := true }
def RxFirstUptoSaid : Prop := rxFirstUptoRow.holds Try.pinned (OpenSpec.upto rxFirstSpec)

/-- 'bobstaylaw05.RxNobody', WHERE WHAT IT READS IS OF BULK AT MOST 1048576: true; the input reads as it did. -/
def rxNobodyUptoRow : OpenClaim := { program := "ytnjpdhekeffpnaa", sum := "91014c0782921845f257e64f56e859037fc5c0acad14e406218ec5ba0c905e63", func := "bobstay/bobstaylaw05.RxNobody", spec := "rxNobody", inPlace := ["internal/bytealg.IndexByteString", "sync/atomic.LoadUint32", "(*internal/sync.Mutex).Lock", "internal/race.Disable", "sync/atomic.CompareAndSwapInt32", "internal/race.Enable", "internal/race.Acquire", "(*internal/sync.Mutex).lockSlow", "internal/sync.runtime_canSpin", "internal/sync.runtime_doSpin", "internal/sync.throw", "internal/sync.runtime_nanotime", "internal/sync.runtime_SemacquireMutex", "sync/atomic.AddInt32", "(*internal/sync.Mutex).Unlock", "internal/race.ReleaseMerge", "(*internal/sync.Mutex).unlockSlow", "internal/sync.fatal", "internal/sync.runtime_Semrelease", "sync/atomic.StoreUint32", "internal/abi.NoEscape"], unfollowed := true, recurses := true, apart := false, narrowed := true }
def RxNobodyUptoSaid : Prop := rxNobodyUptoRow.holds Try.pinned (OpenSpec.upto rxNobodySpec)

/-- 'bobstaylaw05.RxReplaces', WHERE WHAT IT READS IS OF BULK AT MOST 1048576: true; the input reads as it did. -/
def rxReplacesUptoRow : OpenClaim := { program := "ytnjpdhekeffpnaa", sum := "91014c0782921845f257e64f56e859037fc5c0acad14e406218ec5ba0c905e63", func := "bobstay/bobstaylaw05.RxReplaces", spec := "rxReplaces", inPlace := ["internal/bytealg.IndexByteString", "sync/atomic.LoadUint32", "(*internal/sync.Mutex).Lock", "internal/race.Disable", "sync/atomic.CompareAndSwapInt32", "internal/race.Enable", "internal/race.Acquire", "(*internal/sync.Mutex).lockSlow", "internal/sync.runtime_canSpin", "internal/sync.runtime_doSpin", "internal/sync.throw", "internal/sync.runtime_nanotime", "internal/sync.runtime_SemacquireMutex", "sync/atomic.AddInt32", "(*internal/sync.Mutex).Unlock", "internal/race.ReleaseMerge", "(*internal/sync.Mutex).unlockSlow", "internal/sync.fatal", "internal/sync.runtime_Semrelease", "sync/atomic.StoreUint32", "internal/abi.NoEscape"], unfollowed := true, recurses := true, apart := false, narrowed := true }
def RxReplacesUptoSaid : Prop := rxReplacesUptoRow.holds Try.pinned (OpenSpec.upto rxReplacesSpec)

/-- 'bobstaylaw05.RxQuoted', WHERE WHAT IT READS IS OF BULK AT MOST 1048576: true; the input reads as it did. -/
def rxQuotedUptoRow : OpenClaim := { program := "ytnjpdhekeffpnaa", sum := "91014c0782921845f257e64f56e859037fc5c0acad14e406218ec5ba0c905e63", func := "bobstay/bobstaylaw05.RxQuoted", spec := "rxQuoted", inPlace := ["internal/bytealg.IndexByteString", "sync/atomic.LoadUint32", "(*internal/sync.Mutex).Lock", "internal/race.Disable", "sync/atomic.CompareAndSwapInt32", "internal/race.Enable", "internal/race.Acquire", "(*internal/sync.Mutex).lockSlow", "internal/sync.runtime_canSpin", "internal/sync.runtime_doSpin", "internal/sync.throw", "internal/sync.runtime_nanotime", "internal/sync.runtime_SemacquireMutex", "sync/atomic.AddInt32", "(*internal/sync.Mutex).Unlock", "internal/race.ReleaseMerge", "(*internal/sync.Mutex).unlockSlow", "internal/sync.fatal", "internal/sync.runtime_Semrelease", "sync/atomic.StoreUint32", "internal/abi.NoEscape"], unfollowed := true, recurses := true, apart := false, narrowed := true }
def RxQuotedUptoSaid : Prop := rxQuotedUptoRow.holds Try.pinned (OpenSpec.upto rxQuotedSpec)

end Rows
end Go.Proofs.Ytnjpdhekeffpnaa
