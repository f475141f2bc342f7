/- All symmetries, as symmetry.All goes through them: plain. No condition. -/
import Derived.Test.YtffmfhkiienmaaaGreatKd47
import Derived.Test.YtffmfhkiienmaaaGreatSp47
set_option maxRecDepth 100000
set_option maxHeartbeats 16000000
set_option linter.all false
namespace Go.Proofs.YtffmfhkiienmaaaGreat
open Go.RowKit
def setW (V way:List Int):Nat → List Int → List Int
 | 0,ts=>ts
 | n + 1,ts=>(setW V way n ts).set (V.getD n 0).toNat (way.getD n 0)
theorem setW_len (V way ts:List Int):∀ n,(setW V way n ts).length=ts.length
 | 0=>rfl
 | n + 1=>by rw [setW,List.length_set,setW_len V way ts n]
def kAt (ks:List KindV) (i:Nat):KindV:=ks.getD i ⟨0,[],[]⟩
theorem kAt_some {ks:List KindV} {i:Nat} {k:KindV} (h:ks[i]?=some k):kAt ks i=k:=by simp [kAt,List.getD,h]
abbrev GSt:=List (List Int) × List Int
def goR (ks:List KindV):Nat → Nat → (Nat → Bool) → GSt → GSt
 | 0,_,_,s=>(s.1 ++ [s.2],s.2)
 | d + 1,i,used,s=>(List.range ks.length).foldl (fun s j =>
   if used j || !alikeK (kAt ks j) (kAt ks i) then s
   else (kAt ks j).ws.foldl (fun s way=>goR ks d (i + 1) (updF used j true) (s.1,setW ((kAt ks i).ws.getD 0 []) way ((kAt ks i).ws.getD 0 []).length s.2)) s) s
def allR (m:Nat) (T:List Tri):List (List Int):=(goR (kindsL T (kN T)) (kN T) 0 (fun _=>false) ([],List.replicate m 0)).1
end Go.Proofs.YtffmfhkiienmaaaGreat
