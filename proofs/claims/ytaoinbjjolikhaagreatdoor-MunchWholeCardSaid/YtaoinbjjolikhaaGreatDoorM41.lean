/- The texts of B41, in few letters (mini.py). -/
import Derived.Test.YtaoinbjjolikhaaGreatDoorM35
set_option linter.unusedVariables false
set_option linter.unusedSimpArgs false
set_option maxRecDepth 20000
set_option maxHeartbeats 3200000
namespace Go.Proofs.YtaoinbjjolikhaaGreatDoor
open Go.RowKit
theorem H6(V:aG)(D:aT)(w:World)(v:Value)(h:dS w V D)(hl:∀ x∈D.names,x.length≤9223372036854775807)(hr:fH D=false):Calls Tryz.prog 11 #[.agg V.cells,v] w (xR w [] 0 6):=by
 have hbx:=Box.new w V.cells 27
 have hB0:=aj w (.cells V.cells 27)
 have HR:=ah (fun u hu=>hr▸rM V D u (h.kept hu) hl)
 clear h hl hr
 go_enter Tryz.func11,Tryz.ntmps11
 go_wp2_with (first | (refine aC (by rfl) 27 _ rfl w.heap.size rfl _ _ _ _ hbx Tryz.underlying27 rfl (aQ _) ?_) | (go_at_call 20;go_must (refine(HR.out _ hB0).mono ?_;rintro e w2 ⟨rfl,hb2⟩)))
 go_ret3
 exact⟨none,0,rfl,Own.nil _ _ _ _ _,hB0.trans (hb2.mono hB0.size)⟩
end Go.Proofs.YtaoinbjjolikhaaGreatDoor
