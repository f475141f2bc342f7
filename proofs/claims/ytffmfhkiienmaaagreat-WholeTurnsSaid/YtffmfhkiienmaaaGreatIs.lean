/- certify.Is, walked. No condition. -/
import Derived.Test.YtffmfhkiienmaaaGreatCert2
set_option maxRecDepth 100000
set_option maxHeartbeats 16000000
set_option linter.all false
namespace Go.Proofs.YtffmfhkiienmaaaGreat
open Go.RowKit
theorem is_any (N:Int) (A:Option Addr) (n c:Nat) (T:List Tri) (w:World) (hn:n ≤ 1000) (ht:TrisAt w w.heap.size A n T) :
  Calls Tryz.prog 27 #[.agg #[.int .i64 N,.slice A n c]] w fun e w'=>e=.returned (.bool (decide (checkR N T=(0,0,0)))) ∧ Below w.heap.size w w':=by
 have hb0:Below w.heap.size w (w.alloc (.cells #[.int .i64 N,.slice A n c] 24)):=(Below.refl _ _).alloc (Nat.le_refl _) _
 have hch:=check_any N A n c T (w.alloc (.cells #[.int .i64 N,.slice A n c] 24)) hn ((ht.below hb0).more hb0.size)
 have heq:=fun w=>run_eq_wit (checkR N T) (0,0,0) w
 generalize checkR N T=x at *
 obtain ⟨a,b,d⟩:=x
 have HCH:=jJ hch
 have HB0:=jJ hb0
 have HEQ:=jJ heq
 clear hch hb0 ht heq
 go_enter Tryz.func27,Tryz.ntmps27
 go_wp2_with fail
 refine HCH.out.mono ?_
 rintro e w1 ⟨rfl,hb⟩
 have HB:=jJ hb
 clear hb HEQ
 unfold wv
 simp only
 go_wp2_with fail
 all_goals
  go_ret
  refine ⟨?_,HB0.out.trans (HB.out.mono HB0.out.size)⟩
  simp [*]
end Go.Proofs.YtffmfhkiienmaaaGreat
