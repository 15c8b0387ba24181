/- Words for the law ShardPlays: Ps26. -/
import Derived.Test.YtlhmbkjdfjoilaaGreatShardPlaysG0
import Derived.Test.YtlhmbkjdfjoilaaGreatShardPlaysG34
import Derived.Test.YtlhmbkjdfjoilaaGreatShardPlaysG35
set_option linter.unusedSimpArgs false
set_option linter.unusedVariables false
set_option maxHeartbeats 32000000
set_option maxRecDepth 1000000
namespace Go.Proofs.YtlhmbkjdfjoilaaGreat
open Go.RowKit
theorem ai8 (w:World) (k:Int) (l:List oK) (v:Value) (h:Dj w v l):
 Calls Tryz.prog 7 #[.int .i64 k,v] w fun e w'=>e= .returned (.bool true)∧aj (fun _=>False) w w':=by
 obtain⟨a,cp,e⟩:=h.rd.sl
 by_cases h30:30<l.length
 ·rw[e];exact aiO w k _ _ _ h30
 by_cases hk:k<1∨4<k
 ·rw[e];exact aiP w k _ _ _ h30 hk
 obtain⟨n,rfl⟩:∃n:Nat,k=n:=⟨k.toNat,by omega⟩
 exact aiQ ai7 w n (by omega) (by omega) l v h (by omega)
theorem ai9 (w:World) (k:Int) (hk:(Lit.int .i64 k).wf=true) (v:Value) (h:∃l,Dj w v l∧l.length≤140737488351232):
 Calls Tryz.prog 7 #[.int .i64 k,v] w fun e w'=>e= .returned (.bool true)∧aj (fun _=>False) w w':=by
 obtain⟨l,h1,_⟩:=h
 exact ai8 w k l v h1
end Go.Proofs.YtlhmbkjdfjoilaaGreat
