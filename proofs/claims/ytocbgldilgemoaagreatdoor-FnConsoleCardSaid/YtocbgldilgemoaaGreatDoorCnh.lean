/- Lines of a name and numbers of the program's console. Asks the shelf's text. No condition but the bounds. -/
import Derived.Test.YtocbgldilgemoaaGreatDoorCoa
import Derived.Test.YtocbgldilgemoaaGreatDoorFdp
namespace Go.Proofs.YtocbgldilgemoaaGreatDoor
open Go.RowKit
set_option linter.unusedVariables false
theorem ZcN {n:Int} {u:ByteArray} (h:sgV n=some u):u.size≤maxLen:=by
 unfold sgV at h
 split at h
 ·injection h with h
  rw[← h,Zh,sgW,List.length_take]
  unfold maxLen;omega
 ·cases h
theorem ZcO {n:Int} {u:ByteArray} (h:fdV n=some u):u.size≤maxLen:=by
 unfold fdV at h
 split at h
 ·injection h with h
  rw[← h,Zh,fdL,List.length_map,List.length_range]
  unfold maxLen;omega
 ·cases h
theorem ZcP {p q n:Int} {u:ByteArray} (h:mcV p q n=some u):u.size≤maxLen:=by
 unfold mcV at h
 split at h
 ·rename_i hok
  injection h with h
  rw[Zaq,Bool.and_eq_true,Bool.and_eq_true,decide_eq_true_eq,decide_eq_true_eq,decide_eq_true_eq] at hok
  rw[← h,Zh,mcL,List.length_map,List.length_range]
  unfold maxLen;omega
 ·cases h
theorem ZcQ {v:ByteArray} {k:Int} (h:isW (L v)=true):(shW v k).size≤maxLen:=by
 have h4:=Zb h
 unfold shW
 split
 ·rw[ByteArray.size_append,ByteArray.size_extract,ByteArray.size_extract]
  unfold maxLen;omega
 ·decide
end Go.Proofs.YtocbgldilgemoaaGreatDoor
