/- The least corner at a vertex, walked. No condition. -/
import Derived.Test.YtffmfhkiienmaaaGreatCornerB
set_option maxRecDepth 100000
set_option maxHeartbeats 16000000
set_option linter.all false
namespace Go.Proofs.YtffmfhkiienmaaaGreat
open Go.RowKit
section
attribute [local irreducible] Blk LRow World.alloc World.setCell World.cell? World.frozen? MapV
theorem corner_any (g B:Nat) (m:Nat) (T:List Tri) (v:Int) (w:World) (hm:m ≤ 4096) (h:TabAt w B g (m:Int) T) :
  Calls Tryz.prog 57 #[.pointer (some ⟨g,0,none⟩),.int .i64 v] w (IsPost w (.int .i64 (cornerI T m v))):=by
 obtain ⟨A,c,b,n,gf,m',L,t0,t1,t2,t3,hR,hM,hF,hN,hL,hV⟩:=h.cells
 obtain rfl:m=m':=by omega
 unfold cornerI
 by_cases h0:v < 0
 · rw [if_neg (by omega)]
   clear hR hM hF hN hL hV h
   go_enter Tryz.func57,Tryz.ntmps57
   go_wp2_with fail
   go_ret
   exact ⟨rfl,rfl⟩
 by_cases h1:(m:Int) ≤ v
 · rw [if_neg (by omega)]
   clear hR hM hF hN hL hV h
   go_enter Tryz.func57,Tryz.ntmps57
   go_wp2_with fail
   go_ret
   exact ⟨rfl,rfl⟩
 rw [if_pos (by omega)]
 obtain ⟨k,rfl⟩:=Int.eq_ofNat_of_zero_le (show 0 ≤ v by omega)
 have hk:k < m:=by omega
 have q0:=hF.cell k
 rw [ints_at (hV k hk)] at q0
 generalize optI (cornerF T (k:Int))=r at *
 clear hR hM hF hN hL hV h
 go_enter Tryz.func57,Tryz.ntmps57
 go_wp2_with fail
 go_ret
 exact ⟨rfl,rfl⟩
end
section
attribute [local irreducible] Blk LRow World.alloc World.setCell World.cell? World.frozen? MapV
theorem verts_any (g B:Nat) (N:Int) (T:List Tri) (w:World) (h:TabS w B g N T) :
  Calls Tryz.prog 59 #[.pointer (some ⟨g,0,none⟩)] w (IsPost w (.int .i64 N)):=by
 obtain ⟨A,c,t0,t1,hR⟩:=h.cells
 clear hR
 go_enter Tryz.func59,Tryz.ntmps59
 go_wp2_with fail
 go_ret
 exact ⟨rfl,rfl⟩
end
end Go.Proofs.YtffmfhkiienmaaaGreat
