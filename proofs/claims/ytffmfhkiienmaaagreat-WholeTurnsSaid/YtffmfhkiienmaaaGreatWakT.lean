/- The example of the laws over all layers, walked: it is well. No condition. -/
import Derived.Test.YtffmfhkiienmaaaGreatTopS
import Derived.Test.YtffmfhkiienmaaaGreatSp47
import Derived.Test.YtffmfhkiienmaaaGreatKd47
set_option maxRecDepth 100000
set_option maxHeartbeats 16000000
set_option linter.all false
namespace Go.Proofs.YtffmfhkiienmaaaGreat
open Go.RowKit
def solT:List Tri:=[⟨0,1,2⟩,⟨0,3,1⟩,⟨1,3,2⟩,⟨2,3,0⟩]
theorem sol_chk:checkR (4:Nat) solT=(0,0,0):=by decide +kernel
theorem sol_kN:kN solT=1:=by decide +kernel
theorem sol_parts:PartsOk solT:=by
 intro k hk
 rw [sol_kN] at hk
 obtain rfl:k=0:=by omega
 decide +kernel
theorem sol_order:orderN (kindsL solT 1) 1=some 12:=by decide +kernel
theorem sol_root:(rootT solT (bestN solT 0)).length=4:=by decide +kernel
def solW (w:World):World:=(w.alloc (.cells #[.int .i64 4,.slice (some ⟨w.heap.size + 1,0,none⟩) 4 4] 24)).alloc (.cells (solT.flatMap Tri.cells).toArray 65)
theorem solid_ex (w:World):Calls Tryz.prog 12 #[] w fun e w'=>e=.returned (.agg #[.int .i64 4,.slice (some ⟨w.heap.size + 1,0,none⟩) 4 4]) ∧ w'=solW w:=by
 go_enter Tryz.func12,Tryz.ntmps12
 go_wp2_with fail
 refine bodyPost_ret (v:=.agg #[.int .i64 4,.slice (some ⟨w.heap.size + 1,0,none⟩) 4 4]) ?_ rfl ⟨rfl,rfl⟩
 simp [results,Tryz.results12,go_sem]
theorem tris_lit {w:World} {g:Nat} {T:List Tri} (h:Blk w g 65 (T.flatMap Tri.cells).toArray) (hT:0 < T.length):TrisAt w w.heap.size (some ⟨g,0,none⟩) T.length T:=by
 refine TrisAt.mk_ ⟨flatMap_len 3 Tri.cells (fun _=>rfl) T,fun _=>⟨_,rfl,h.lt,fun j u hj=>?_⟩⟩
 have e:(⟨g,0,none⟩:Addr).add j=⟨g,j,none⟩:=by unfold Addr.add; split <;> simp_all
 rw [e,h.cell]
 simpa using hj
theorem solW_below (w:World):Below w.heap.size w (solW w):=bw_alloc (bw_alloc (Below.refl _ _) _) _
theorem solW_tris (w:World):TrisAt (solW w) (solW w).heap.size (some ⟨w.heap.size + 1,0,none⟩) 4 solT:=tris_lit (Blk.new_ (by rw [World.size_alloc]) _ _) (by decide)
def SolP (w:World) (e:Ending) (w':World):Prop:=∃ A,e=.returned (.agg #[.int .i64 4,.slice A 4 4]) ∧ TrisAt w' w'.heap.size A 4 solT ∧ Below w.heap.size w w'
theorem solid_any (w:World):Calls Tryz.prog 12 #[] w (SolP w):=(solid_ex w).mono fun e w' ⟨he,hw⟩=>⟨_,he,by rw [hw]; exact solW_tris w,by rw [hw]; exact solW_below w⟩
theorem sol_orderW (A:Option Addr) (w:World) (h:TrisAt w w.heap.size A 4 solT):Calls Tryz.prog 8 #[.agg #[.int .i64 4,.slice A 4 4]] w (fun e w'=>e=.returned (.tuple #[.int .i64 12,.int .i64 0]) ∧ Below w.heap.size w w'):=by
 have:=symOrder_yes 4 A 4 solT w sol_chk (by decide) sol_parts h
 rw [sol_kN,sol_order] at this
 exact this
theorem sol_formW (A:Option Addr) (w:World) (h:TrisAt w w.heap.size A 4 solT):Calls Tryz.prog 13 #[.agg #[.int .i64 4,.slice A 4 4]] w (fun e w'=>∃ (M:Int) (At Ao:Option Addr) (ct no co:Nat),e=.returned (.tuple #[.agg #[.int .i64 M,.slice At 4 ct],.slice Ao no co,.int .i64 0]) ∧ Below w.heap.size w w'):=by
 refine (formAny_any 4 A 4 solT w (by decide) (by rw [sol_kN]; decide) (by rw [sol_kN]; decide) h).mono ?_
 rintro e w' ⟨M,L,At,Ao,ct,no,co,er,rfl,_,_,hb,hI⟩
 obtain ⟨he,p,hp,_,hL⟩:=hI.yes sol_chk
 rw [put_one sol_kN hp,joinC_one] at hL
 subst he
 have hl:L.length=4:=by rw [hL,sol_root]
 rw [hl]
 exact ⟨M,At,Ao,ct,no,co,rfl,hb⟩
attribute [local irreducible] Blk World.alloc World.setCell World.cell? World.frozen? MapV MapI
theorem awakeF_any (w:World):Calls Tryz.prog 5 #[] w (fun e w'=>e=.returned (.bool true) ∧ Below w.heap.size w w'):=by
 go_enter Tryz.func5,Tryz.ntmps5
 go_wp2_with fail
 refine (solid_any w).mono ?_
 rintro e w1 ⟨A,rfl,ht,hb⟩
 have HT1:=jJ ht
 have HB1:=jJ hb
 clear ht hb
 go_wp2_with fail
 refine (sol_orderW A w1 HT1.out).mono ?_
 rintro e w2 ⟨rfl,hb⟩
 have HB2:=jJ (bw_call HB1.out hb)
 clear hb HT1 HB1
 go_wp2_with fail
 refine (solid_any w2).mono ?_
 rintro e w3 ⟨A',rfl,ht,hb⟩
 have HT3:=jJ ht
 have HB3:=jJ (bw_call HB2.out hb)
 clear ht hb HB2
 go_wp2_with fail
 refine (sol_formW A' w3 HT3.out).mono ?_
 rintro e w4 ⟨M,At,Ao,ct,no,co,rfl,hb⟩
 have HB4:=jJ (bw_call HB3.out hb)
 clear hb HB3 HT3
 go_wp2_with fail
 go_ret
 exact ⟨rfl,bw_alloc HB4.out _⟩
end Go.Proofs.YtffmfhkiienmaaaGreat
