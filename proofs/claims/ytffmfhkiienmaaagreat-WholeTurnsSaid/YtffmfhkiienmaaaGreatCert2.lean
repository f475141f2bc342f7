/- Whether triangles at a vertex are connected: the plain model of the search. No program in sight. -/
import Derived.Test.YtffmfhkiienmaaaGreatCert1
import Derived.ArgAppend
import Derived.Deep.LoopGhost
import Derived.WalkSpells
import Derived.Laws.StructEq
set_option maxRecDepth 100000
set_option maxHeartbeats 16000000
set_option linter.all false
namespace Go.Proofs.YtffmfhkiienmaaaGreat
open Go.RowKit
section
def tri (T:List Tri) (i:Nat):Tri:=T.getD i ⟨0,0,0⟩
theorem tri_of {T:List Tri} {i:Nat} {t:Tri} (h:T[i]?=some t):tri T i=t:=by unfold tri; rw [List.getD_eq_getElem?_getD,h]; rfl
def verts (t:Tri):List Int:=[t.a,t.b,t.c]
def Nbr (T:List Tri) (v:Int) (i k:Nat):Prop:=∃ w,w ≠ v ∧ w ∈ verts (tri T i) ∧ w ∈ verts (tri T k)
def Reach (R:Nat → Nat → Prop) (a b:Nat):Prop:=∀ S:Nat → Prop,S a → (∀ x y,S x → R x y → S y) → S b
theorem Reach.refl (R:Nat → Nat → Prop) (a:Nat):Reach R a a:=fun _ h _=>h
theorem Reach.step {R:Nat → Nat → Prop} {a b c:Nat} (h:Reach R a b) (hr:R b c):Reach R a c:=fun S ha hs=>hs b c (h S ha hs) hr
def Conn (T:List Tri) (v:Int) (S:List Nat):Prop:=∀ k ∈ S,Reach (fun a b=>a ∈ S ∧ b ∈ S ∧ Nbr T v a b) (S.headD 0) k
open Classical in
noncomputable def connB (T:List Tri) (v:Int) (S:List Nat):Bool:=decide (Conn T v S)
open Classical in
theorem connB_iff (T:List Tri) (v:Int) (S:List Nat):connB T v S=true ↔ Conn T v S:=by unfold connB; rw [decide_eq_true_eq]
def addE (v:Int) (i:Nat) (E:Int → List Nat) (x:Int):Int → List Nat:=if x=v then E else fun y=>if y=x then E x ++ [i] else E y
def triE (T:List Tri) (v:Int) (E:Int → List Nat) (i:Nat):Int → List Nat:=(verts (tri T i)).foldl (addE v i) E
def endsF (T:List Tri) (v:Int) (S:List Nat):Int → List Nat:=S.foldl (triE T v) fun _=>[]
theorem addE_mem (v:Int) (i:Nat) (E:Int → List Nat) (x y:Int) (k:Nat):k ∈ addE v i E x y ↔ k ∈ E y ∨ (y=x ∧ x ≠ v ∧ k=i):=by
 unfold addE
 by_cases hx:x=v
 · rw [if_pos hx]; simp [hx]
 rw [if_neg hx]
 by_cases hy:y=x
 · subst hy; simp [hx]
 simp [hy]
theorem foldE_mem (v:Int) (i:Nat) (y:Int) (k:Nat):∀ (l:List Int) (E:Int → List Nat),k ∈ l.foldl (addE v i) E y ↔ k ∈ E y ∨ (y ∈ l ∧ y ≠ v ∧ k=i)
 | [],E=>by simp
 | x :: l,E=>by
  rw [List.foldl_cons,foldE_mem v i y k l,addE_mem]
  simp only [List.mem_cons]
  constructor
  · rintro ((h | ⟨rfl,h2,h3⟩) | ⟨h1,h2,h3⟩)
    · exact .inl h
    · exact .inr ⟨.inl rfl,h2,h3⟩
    exact .inr ⟨.inr h1,h2,h3⟩
  rintro (h | ⟨rfl | h1,h2,h3⟩)
  · exact .inl (.inl h)
  · exact .inl (.inr ⟨rfl,h2,h3⟩)
  exact .inr ⟨h1,h2,h3⟩
theorem foldT_mem (T:List Tri) (v:Int) (y:Int) (k:Nat):∀ (S:List Nat) (E:Int → List Nat),k ∈ S.foldl (triE T v) E y ↔ k ∈ E y ∨ (k ∈ S ∧ y ≠ v ∧ y ∈ verts (tri T k))
 | [],E=>by simp
 | i :: S,E=>by
  rw [List.foldl_cons,foldT_mem T v y k S]
  unfold triE
  rw [foldE_mem]
  simp only [List.mem_cons]
  constructor
  · rintro ((h | ⟨h1,h2,rfl⟩) | ⟨h1,h2,h3⟩)
    · exact .inl h
    · exact .inr ⟨.inl rfl,h2,h1⟩
    exact .inr ⟨.inr h1,h2,h3⟩
  rintro (h | ⟨rfl | h1,h2,h3⟩)
  · exact .inl (.inl h)
  · exact .inl (.inr ⟨h3,h2,rfl⟩)
  exact .inr ⟨h1,h2,h3⟩
theorem endsF_mem (T:List Tri) (v:Int) (S:List Nat) (y:Int) (k:Nat):k ∈ endsF T v S y ↔ k ∈ S ∧ y ≠ v ∧ y ∈ verts (tri T k):=by
 unfold endsF
 rw [foldT_mem]
 simp
def ShortE (E:Int → List Nat) (m n:Nat):Prop:=∀ y,(E y).length ≤ m ∧ ∀ k ∈ E y,k < n
theorem addE_short {v:Int} {i m n:Nat} {E:Int → List Nat} (h:ShortE E m n) (hi:i < n) (x:Int):ShortE (addE v i E x) (m + 1) n:=by
 intro y
 unfold addE
 split
 · exact ⟨Nat.le_succ_of_le (h y).1,(h y).2⟩
 simp only
 split
 · refine ⟨by rw [List.length_append]; have:=(h x).1; simp; omega,fun k hk=>?_⟩
   rcases List.mem_append.1 hk with h' | h'
   · exact (h x).2 k h'
   simp at h'; omega
 exact ⟨Nat.le_succ_of_le (h y).1,(h y).2⟩
theorem foldE_short {v:Int} {i n:Nat} (hi:i < n):∀ (l:List Int) (E:Int → List Nat) (m:Nat),ShortE E m n → ShortE (l.foldl (addE v i) E) (m + l.length) n
 | [],_,_,h=>h
 | x :: l,E,m,h=>by
  have:=foldE_short (v:=v) hi l _ _ (addE_short (v:=v) h hi x)
  rw [List.length_cons,show m + (l.length + 1)=m + 1 + l.length by omega]
  exact this
theorem foldT_short (T:List Tri) (v:Int) {n:Nat}:∀ (S:List Nat) (E:Int → List Nat) (m:Nat),(∀ i ∈ S,i < n) → ShortE E m n → ShortE (S.foldl (triE T v) E) (m + 3 * S.length) n
 | [],_,_,_,h=>h
 | i :: S,E,m,hS,h=>by
  have h1:ShortE (triE T v E i) (m + 3) n:=foldE_short (hS i (by simp)) (verts (tri T i)) E m h
  have:=foldT_short T v S _ _ (fun k hk=>hS k (by simp [hk])) h1
  rw [List.length_cons,show m + 3 * (S.length + 1)=m + 3 + 3 * S.length by omega]
  exact this
def visit (s:List Nat × List Nat) (k:Nat):List Nat × List Nat:=if k ∈ s.1 then s else (s.1 ++ [k],s.2 ++ [k])
structure Visited (s s':List Nat × List Nat) (l:List Nat):Prop where
 r:∀ x ∈ s.1,x ∈ s'.1
 q:∀ x ∈ s.2,x ∈ s'.2
 all:∀ x ∈ l,x ∈ s'.1
 only:∀ x ∈ s'.1,x ∈ s.1 ∨ (x ∈ l ∧ x ∈ s'.2)
 nodup:s.1.Nodup → s'.1.Nodup
 sub:(∀ x ∈ s.2,x ∈ s.1) → ∀ x ∈ s'.2,x ∈ s'.1
 len:s'.1.length + s.2.length=s.1.length + s'.2.length
theorem visit_one (s:List Nat × List Nat) (k:Nat):Visited s (visit s k) [k]:=by
 unfold visit
 by_cases hk:k ∈ s.1
 · rw [if_pos hk]
   exact ⟨fun _ h=>h,fun _ h=>h,fun x hx=>by simp at hx; subst hx; exact hk,fun _ h=>.inl h,id,id,rfl⟩
 rw [if_neg hk]
 refine ⟨fun x h=>by simp [h],fun x h=>by simp [h],fun x hx=>by simp at hx; subst hx; simp,fun x hx=>?_,fun h=>?_,fun h x hx=>?_,by simp; omega⟩
 · rcases List.mem_append.1 hx with h | h
   · exact .inl h
   exact .inr ⟨h,by simp at h ⊢; exact .inr h⟩
 · rw [List.nodup_append]
   exact ⟨h,by simp,fun a ha b hb=>by simp at hb; subst hb; rintro rfl; exact hk ha⟩
 rcases List.mem_append.1 hx with h' | h'
 · exact List.mem_append_left _ (h x h')
 exact List.mem_append_right _ h'
theorem Visited.trans {s s' s'':List Nat × List Nat} {l l':List Nat} (h:Visited s s' l) (h':Visited s' s'' l'):Visited s s'' (l ++ l'):=by
 refine ⟨fun x hx=>h'.r x (h.r x hx),fun x hx=>h'.q x (h.q x hx),fun x hx=>?_,fun x hx=>?_,fun hn=>h'.nodup (h.nodup hn),fun hs=>h'.sub (h.sub hs),by have:=h.len; have:=h'.len; omega⟩
 · rcases List.mem_append.1 hx with e | e
   · exact h'.r x (h.all x e)
   exact h'.all x e
 rcases h'.only x hx with e | ⟨e1,e2⟩
 · rcases h.only x e with e' | ⟨e1,e2⟩
   · exact .inl e'
   exact .inr ⟨by simp [e1],h'.q x e2⟩
 exact .inr ⟨by simp [e1],e2⟩
theorem visit_all:∀ (l:List Nat) (s:List Nat × List Nat),Visited s (l.foldl visit s) l
 | [],s=>⟨fun _ h=>h,fun _ h=>h,(fun x hx=>by cases hx),fun _ h=>.inl h,id,id,rfl⟩
 | k :: l,s=>by
  have:=(visit_one s k).trans (visit_all l (visit s k))
  exact this
def fromV (E:Int → List Nat) (v:Int) (s:List Nat × List Nat) (w:Int):List Nat × List Nat:=if w=v then s else (E w).foldl visit s
theorem fromV_all (E:Int → List Nat) (v:Int):∀ (ws:List Int) (s:List Nat × List Nat),Visited s (ws.foldl (fromV E v) s) (ws.flatMap fun w=>if w=v then [] else E w)
 | [],s=>visit_all [] s
 | w :: ws,s=>by
  rw [List.flatMap_cons,List.foldl_cons]
  refine Visited.trans ?_ (fromV_all E v ws (fromV E v s w))
  unfold fromV
  by_cases hw:w=v
  · rw [if_pos hw,if_pos hw]; exact visit_all [] s
  rw [if_neg hw,if_neg hw]; exact visit_all _ s
structure SInv (T:List Tri) (v:Int) (S:List Nat) (s:List Nat × List Nat):Prop where
 nodup:s.1.Nodup
 inS:∀ x ∈ s.1,x ∈ S
 sub:∀ x ∈ s.2,x ∈ s.1
 first:S.headD 0 ∈ s.1
 closed:∀ i ∈ s.1,i ∉ s.2 → ∀ k ∈ S,Nbr T v i k → k ∈ s.1
 reach:∀ i ∈ s.1,Reach (fun a b=>a ∈ S ∧ b ∈ S ∧ Nbr T v a b) (S.headD 0) i
theorem sinv_start (T:List Tri) (v:Int) {S:List Nat} (hS:S ≠ []):SInv T v S ([S.headD 0],[S.headD 0]):=by
 have h0:S.headD 0 ∈ S:=by cases S with
  | nil=>exact absurd rfl hS
  | cons a l=>simp
 refine ⟨by simp,fun x hx=>by rw [List.mem_singleton.1 hx]; exact h0,fun x hx=>hx,by simp,fun i hi hn=>absurd hi hn,fun i hi=>?_⟩
 rw [List.mem_singleton.1 hi]
 exact Reach.refl _ _
theorem sinv_step {T:List Tri} {v:Int} {S:List Nat} {R Q:List Nat} {i:Nat} (h:SInv T v S (R,i :: Q)):SInv T v S ((verts (tri T i)).foldl (fromV (endsF T v S) v) (R,Q)) ∧
  2 * (S.length - ((verts (tri T i)).foldl (fromV (endsF T v S) v) (R,Q)).1.length) + ((verts (tri T i)).foldl (fromV (endsF T v S) v) (R,Q)).2.length < 2 * (S.length - R.length) + (i :: Q).length:=by
 have hv:=fromV_all (endsF T v S) v (verts (tri T i)) (R,Q)
 generalize (verts (tri T i)).foldl (fromV (endsF T v S) v) (R,Q)=s' at *
 have hl:∀ k,k ∈ ((verts (tri T i)).flatMap fun w=>if w=v then [] else endsF T v S w) ↔ k ∈ S ∧ Nbr T v i k:=by
  intro k
  rw [List.mem_flatMap]
  constructor
  · rintro ⟨w,hw,hk⟩
    by_cases e:w=v
    · rw [if_pos e] at hk; cases hk
    rw [if_neg e,endsF_mem] at hk
    exact ⟨hk.1,w,e,hw,hk.2.2⟩
  rintro ⟨hk,w,e,hw,hw2⟩
  exact ⟨w,hw,by rw [if_neg e,endsF_mem]; exact ⟨hk,e,hw2⟩⟩
 have hiR:i ∈ R:=h.sub i (by simp)
 have hin:∀ x ∈ s'.1,x ∈ S:=fun x hx=>by
  rcases hv.only x hx with e | ⟨e,_⟩
  · exact h.inS x e
  exact ((hl x).1 e).1
 have hnd:=hv.nodup h.nodup
 refine ⟨⟨hnd,hin,hv.sub fun x hx=>h.sub x (by simp [hx]),hv.r _ h.first,fun k hk hn m hm hkm=>?_,fun k hk=>?_⟩,?_⟩
 · rcases hv.only k hk with e | ⟨_,e⟩
   · by_cases hki:k=i
     · subst hki
       exact hv.all m ((hl m).2 ⟨hm,hkm⟩)
     refine hv.r m (h.closed k e ?_ m hm hkm)
     simp only [List.mem_cons,not_or]
     exact ⟨hki,fun hq=>hn (hv.q k hq)⟩
   exact absurd e hn
 · rcases hv.only k hk with e | ⟨e,_⟩
   · exact h.reach k e
   exact (h.reach i hiR).step ⟨h.inS i hiR,((hl k).1 e).1,((hl k).1 e).2⟩
 have h1:=nodup_le _ _ hnd hin
 have h2:=hv.len
 have h3:R.length ≤ s'.1.length:=nodup_le _ _ h.nodup fun x hx=>hv.r x hx
 simp only [List.length_cons] at h2 ⊢
 omega
theorem sinv_end {T:List Tri} {v:Int} {S:List Nat} (hn:S.Nodup) {R:List Nat} (h:SInv T v S (R,[])):(R.length=S.length ↔ Conn T v S) ∧ R.length ≤ S.length:=by
 have hle:=nodup_le R S h.nodup h.inS
 refine ⟨⟨fun he k hk=>?_,fun hc=>?_⟩,hle⟩
 · have hR:k ∈ R:=by
    refine Classical.byContradiction fun hno=>?_
    have:=nodup_le (k :: R) S (List.nodup_cons.2 ⟨hno,h.nodup⟩) fun x hx=>by
     rcases List.mem_cons.1 hx with rfl | hx
     · exact hk
     exact h.inS x hx
    simp at this
    omega
   exact h.reach k hR
 · have hsub:∀ k ∈ S,k ∈ R:=fun k hk=>hc k hk (fun x=>x ∈ R) h.first fun x y hx hr=>h.closed x hx (by simp) y hr.2.1 hr.2.2
   have:=nodup_le S R hn hsub
   omega
end
section
open Go.Maps (Keyed)
def ik (x:Int):Value:=.int .i64 x
theorem ik_inj (x y:Int) (h:ik x=ik y):x=y:=by unfold ik at h; injection h
theorem ik_key {x:Int} (h:(Lit.int .i64 x).wf=true):keyOf Tryz.prog 3 (ik x)=some (.int .i64 x):=Maps.keyOf_int_mk Tryz.underlying3 h
theorem keyedI:Keyed Tryz.prog 3 := Maps.int_keyed Tryz.underlying3
theorem HadAt.row_of {w:World} {base:Nat} {κ:Type} {enc:κ → Value} {f:Value → Option Value} {H:κ → List Nat} (h:HadAt w base enc f H) {k:κ} {A:Option Addr} {c:Nat} (e:(f (enc k)).getD (.slice none 0 0)=.slice A (H k).length c):NatRow w base A c (H k):=by
 obtain ⟨A',c',e',hr,_⟩:=h.look k
 rw [e] at e'
 injection e' with e1 _ e2
 subst e1 e2
 exact hr
def EndsAt (w:World) (base be m:Nat) (E:Int → List Nat):Prop:=∃ fe ne,ne ≤ m ∧ MapV Tryz.prog 3 w be ne fe ∧ HadAt w base ik fe E
theorem EndsAt.keep {w w':World} {base be m:Nat} {E:Int → List Nat} (h:EndsAt w base be m E) (hb:Below w.heap.size w w'):EndsAt w' base be m E:=by
 obtain ⟨fe,ne,h1,h2,h3⟩:=h
 exact ⟨fe,ne,h1,h2.below hb h2.lt,h3.below hb⟩
theorem EndsAt.more {w:World} {base be m m':Nat} {E:Int → List Nat} (h:EndsAt w base be m E) (hm:m ≤ m'):EndsAt w base be m' E:=by
 obtain ⟨fe,ne,h1,r⟩:=h
 exact ⟨fe,ne,by omega,r⟩
theorem EndsAt.app {wr:World} {base be m:Nat} {E:Int → List Nat} (h:EndsAt wr base be m E) {x:Int} (hx:(Lit.int .i64 x).wf=true) (hm:m < maxLen) (i:Nat) (hbb:base ≤ be) (hbw:base ≤ wr.heap.size) :
  ∃ (Ak:Option Addr) (ck:Nat),(Instr.lookup 180 (.map (some be)) (.int .i64 x) false).run Tryz.prog wr=.ok (.slice Ak (E x).length ck) wr ∧
   ∀ wx,Below wr.heap.size wr wx → NatRow wx base Ak ck (E x) ∧
   ∀ w1 A1 c1,w1.ownsRow base 3 1 (.slice A1 ((E x).length + 1) c1) ((E x).length + 1) (nats (E x) ++ [.int .i64 (i:Int)]) → wx.grownBy w1 (Value.slice Ak (E x).length ck).ownBlock →
    ((Value.slice A1 ((E x).length + 1) c1).ownBlock=(Value.slice Ak (E x).length ck).ownBlock ∨ (Value.slice A1 ((E x).length + 1) c1).ownBlock=some wx.heap.size) →
    ∃ es clock,(Instr.mapUpdate 180 (.map (some be)) (.int .i64 x) (.slice A1 ((E x).length + 1) c1)).run Tryz.prog w1=.ok () (ChangeMaps.setBlock w1 be (.map es clock)) ∧
     EndsAt (ChangeMaps.setBlock w1 be (.map es clock)) base be (m + 1) (fun y=>if y=x then E x ++ [i] else E y) ∧ Below base wx (ChangeMaps.setBlock w1 be (.map es clock)):=by
 obtain ⟨fe,ne,hn,hm0,hh0⟩:=h
 have hz:(zeroValue 30).run Tryz.prog wr=.ok (.slice none 0 0) wr:=by kernel_rfl
 have hlk:=hm0.look keyedI Tryz.underlying180 hz (ik_key hx) false
 obtain ⟨Ak,ck,e1,_,e3⟩:=hh0.look x
 rw [if_neg (by decide),e1] at hlk
 refine ⟨Ak,ck,hlk,fun wx hb=>?_⟩
 have hmx:=hm0.below hb hm0.lt
 have hhx:=hh0.below hb
 have hrow:=hhx.row_of e1
 refine ⟨hrow,fun w1 A1 c1 ho hg hat=>?_⟩
 have hint:∀ b,(Value.slice Ak (E x).length ck).ownBlock=some b → ∃ cs,Blk wx b 3 cs:=fun b hb=>own_blk hrow hb
 have hm1:=hmx.grown hg fun e=>by
  obtain ⟨cs,hb⟩:=hint _ e.symm
  exact hmx.ne_blk hb rfl
 obtain ⟨es,clock,hrun,hst⟩:=hm1.store keyedI Tryz.underlying180 (by omega) (ik_key hx) (.slice A1 ((E x).length + 1) c1)
 have hl:(E x ++ [i]).length=(E x).length + 1:=by simp
 have hput:=hhx.put (w':=w1) ik_inj (k:=x) (v:=.slice Ak (E x).length ck) e3 (A':=A1) (c':=c1) (l:=E x ++ [i]) (by simp) (by unfold NatRow; rw [hl]; simpa [nats] using ho) hg
  (by rw [hl]; rcases hat with h | h; exact .inl h; exact .inr ⟨_,h,Nat.le_refl _⟩) (H':=fun y=>if y=x then E x ++ [i] else E y) (by simp) (fun y hy=>by simp [hy])
 rw [hl] at hput
 refine ⟨es,clock,hrun,⟨_,_,?_,hst,hput.keep fun j cs hb=>heap_setBlock_ne _ _ _ fun e=>?_⟩,?_⟩
 · split <;> omega
 · subst e; exact hm1.ne_blk hb rfl
 have b1:Below base wx w1:=(Below.refl base wx).grown hg (Nat.le_trans hbw hb.size) fun k hk=>(hrow.lt k hk).1
 exact b1.trans (((Only.refl (fun i=>i=be) w1).setBlock (.inl rfl) _).below (Nat.le_trans (Nat.le_trans hbw hb.size) b1.size) fun k hk e=>by omega)
def ReachAt (w:World) (br:Nat) (R:List Nat):Prop:=∃ fr,MapV Tryz.prog 3 w br R.length fr ∧ ∀ k:Nat,(k ∈ R → fr (ik k)=some (.bool true)) ∧ (k ∉ R → fr (ik k)=none)
theorem ReachAt.keep {w w':World} {br:Nat} {R:List Nat} (h:ReachAt w br R) (hs:w'.heap[br]?=w.heap[br]?):ReachAt w' br R:=by
 obtain ⟨fr,h1,h2⟩:=h
 exact ⟨fr,h1.same hs,h2⟩
theorem ReachAt.lt {w:World} {br:Nat} {R:List Nat} (h:ReachAt w br R):br < w.heap.size:=by
 obtain ⟨fr,h1,_⟩:=h
 exact h1.lt
theorem ReachAt.ne_blk {w:World} {br g:Nat} {R:List Nat} {t:TypeId} {cs:Array Value} (h:ReachAt w br R) (hb:Blk w g t cs):br ≠ g:=by
 obtain ⟨fr,h1,_⟩:=h
 exact h1.ne_blk hb
theorem ReachAt.look {w:World} {br:Nat} {R:List Nat} (h:ReachAt w br R) {k:Nat} (hk:k ≤ 9223372036854775807) :
  (Instr.lookup 144 (.map (some br)) (.int .i64 (k:Int)) false).run Tryz.prog w=.ok (.bool (decide (k ∈ R))) w:=by
 obtain ⟨fr,h1,h2⟩:=h
 have hz:(zeroValue 4).run Tryz.prog w=.ok (.bool false) w:=by kernel_rfl
 have hlk:=h1.look keyedI Tryz.underlying144 hz (ik_key (x:=(k:Int)) (WalkArith.wf_i64 (by omega))) false
 rw [if_neg (by decide)] at hlk
 by_cases hR:k ∈ R
 · rw [(h2 k).1 hR] at hlk
   rw [decide_eq_true hR]
   exact hlk
 rw [(h2 k).2 hR] at hlk
 rw [decide_eq_false hR]
 exact hlk
theorem ReachAt.store {w:World} {br:Nat} {R:List Nat} (h:ReachAt w br R) {k:Nat} (hk:k ≤ 9223372036854775807) (hR:k ∉ R) (hl:R.length < maxLen) :
  ∃ es clock,(Instr.mapUpdate 144 (.map (some br)) (.int .i64 (k:Int)) (.bool true)).run Tryz.prog w=.ok () (ChangeMaps.setBlock w br (.map es clock)) ∧ ReachAt (ChangeMaps.setBlock w br (.map es clock)) br (R ++ [k]):=by
 obtain ⟨fr,h1,h2⟩:=h
 obtain ⟨es,clock,hrun,hst⟩:=h1.store keyedI Tryz.underlying144 hl (ik_key (x:=(k:Int)) (WalkArith.wf_i64 (by omega))) (.bool true)
 rw [(h2 k).2 hR,if_neg (by simp)] at hst
 refine ⟨es,clock,hrun,_,by rw [List.length_append]; exact hst,fun j=>?_⟩
 by_cases e:j=k
 · subst e
   exact ⟨fun _=>putV_same _ _ _,fun hn=>absurd (by simp) hn⟩
 have hne:ik j ≠ ik k:=fun h'=>e (by have:=ik_inj _ _ h'; omega)
 rw [putV_ne _ _ hne]
 refine ⟨fun hj=>(h2 j).1 ?_,fun hj=>(h2 j).2 fun h'=>hj (by simp [h'])⟩
 rcases List.mem_append.1 hj with h' | h'
 · exact h'
 simp at h'; exact absurd h' e
theorem ReachAt.len {w:World} {br:Nat} {R:List Nat} (h:ReachAt w br R) (ty:TypeId):(Builtin.len_ #[144] ty #[.map (some br)]).run Tryz.prog w=.ok (.int .i64 R.length) w:=by
 obtain ⟨fr,h1,h2⟩:=h
 exact h1.len Tryz.underlying144 ty
end
section
def QRow (w:World) (base g:Nat) (A:Option Addr) (c:Nat) (Q:List Nat):Prop :=
 ∃ off cur,A=some ⟨g,off,none⟩ ∧ base ≤ g ∧ Blk w g 3 cur ∧ Q.length ≤ c ∧ c ≤ maxLen ∧ off + c ≤ cur.size ∧ ∀ j u,(nats Q)[j]?=some u → cur[off + j]?=some u
section
variable {w w':World} {base g c:Nat} {A:Option Addr} {Q:List Nat}
theorem QRow.keep (h:QRow w base g A c Q) (hk:w'.heap[g]?=w.heap[g]?):QRow w' base g A c Q:=by
 obtain ⟨off,cur,h1,h2,h3,r⟩:=h
 exact ⟨off,cur,h1,h2,hk.trans h3,r⟩
theorem QRow.lt (h:QRow w base g A c Q):g < w.heap.size:=by
 obtain ⟨off,cur,h1,h2,h3,r⟩:=h
 exact h3.lt
theorem QRow.blk (h:QRow w base g A c Q):∃ cs,Blk w g 3 cs:=by
 obtain ⟨off,cur,h1,h2,h3,r⟩:=h
 exact ⟨cur,h3⟩
theorem QRow.new (w:World) {base:Nat} (hb:base ≤ w.heap.size) (x:Nat):QRow (w.alloc (.cells #[.int .i64 (x:Int)] 3)) base w.heap.size (some ⟨w.heap.size,0,none⟩) 1 [x]:=by
 refine ⟨0,_,rfl,hb,Blk.new _ _ _,Nat.le_refl _,by decide,Nat.le_refl _,fun j u hj=>?_⟩
 match j,hj with
 | 0,hj=>simpa [nats] using hj
theorem QRow.head {i:Nat} (h:QRow w base g A c (i :: Q)):∃ off,A=some ⟨g,off,none⟩ ∧ w.cell? ⟨g,off,none⟩=some (.int .i64 (i:Int)):=by
 obtain ⟨off,cur,h1,h2,h3,_,_,_,h4⟩:=h
 exact ⟨off,h1,(h3.cell off).trans (h4 0 _ rfl)⟩
theorem QRow.tail {i:Nat} {off:Nat} (h:QRow w base g (some ⟨g,off,none⟩) c (i :: Q)):QRow w base g (if c=1 then some ⟨g,off,none⟩ else some ⟨g,off + 1,none⟩) (c - 1) Q:=by
 obtain ⟨off',cur,h1,h2,h3,h4,h5,h6,h7⟩:=h
 injection h1 with h1
 injection h1 with _ h1
 subst h1
 simp only [List.length_cons] at h4
 by_cases hc:c=1
 · rw [if_pos hc]
   refine ⟨off,cur,rfl,h2,h3,by omega,by omega,by omega,fun j u hj=>?_⟩
   have hj2:j < Q.length:=by have:=(List.getElem?_eq_some_iff.1 hj).1; simpa [nats] using this
   omega
 rw [if_neg hc]
 refine ⟨off + 1,cur,rfl,h2,h3,by omega,by omega,by omega,fun j u hj=>?_⟩
 rw [Nat.add_assoc,Nat.add_comm 1 j]
 exact h7 (j + 1) u hj
theorem run_tail (off c n:Nat) (hn:1 ≤ n) (w:World) :
  (Instr.slice 30 (.slice (some ⟨g,off,none⟩) n c) (some (.int .i64 1)) none none).run Tryz.prog w=.ok (.slice (if c=1 then some ⟨g,off,none⟩ else some ⟨g,off + 1,none⟩) (n - 1) (c - 1)) w:=by
 obtain ⟨i1,hi1,hy0,hy1,hy2⟩:=info_parts int_info
 have:=run_slice_from (P:=Tryz.prog) Tryz.underlying30 hi1 (some ⟨g,off,none⟩) n c 1 hn w
 rw [hy1] at this
 simpa [Addr.add] using this
theorem wpList_append_q {ops:Array Oper} {rest:List Oper} {o:Oper} {a:Act} {K:Exit → Act → World → Prop} (hgd:o.guard=none) (s x:Operand)
  (ho:o.op=.call { callee:=.builtin .append,args:=#[s,x],argTypes:=#[30, 30] })
  (hq:QRow w base g A c Q) (hs:a.eval s=.slice A Q.length c) (ad:Addr) (k:Nat) (hx:a.eval x=.slice (some ad) 1 1) (hc:w.cell? ad=some (.int .i64 (k:Int))) (hl:Q.length + 1 ≤ 1000000) (hb:base ≤ w.heap.size)
  (h:∀ g' A' c' w',QRow w' base g' A' c' (Q ++ [k]) → w.grownBy w' (some g) → (g'=g ∨ w.heap.size ≤ g') → wpList Tryz.prog ops K rest (a.put o.dst (.slice A' (Q.length + 1) c')) w'):wpList Tryz.prog ops K (o :: rest) a w:=by
 obtain ⟨i1,hi1,hy0,hy1,hy2⟩:=info_parts int_info
 obtain ⟨off,cur,rfl,h2,h3,h4,h5,h6,h7⟩:=hq
 have hmx:(maxLen:Nat)=9223372036854775807:=rfl
 refine wpList_append_arg w hgd s x 30 ho 3 i1 (.int .i64 0) 1 8 Tryz.underlying30 hi1 hy0 hy1 hy2 rfl (by omega) g off Q.length c (nats Q) hs (by simp [nats]) (fun j u hj=>(h3.cell _).trans (h7 j u hj)) ad 1 1 [.int .i64 (k:Int)] hx rfl
  (fun j u hj=>by
   match j,hj with
   | 0,hj=>simp at hj; subst hj; rw [add_zero_]; exact hc) (by simp [Value.oneCell']) (fun hr j hj=>?_) (by omega) (by omega) (fun hr=>?_) (fun hr v' w' ho' hg'=>?_)
 · simp at hj
   subst hj
   refine ⟨?_,h3.frozen _⟩
   rw [h3.cell,Array.getElem?_eq_getElem (by omega)]
   rfl
 · have e:w.setCells g (off + Q.length * 1) [.int .i64 (k:Int)]=w.setCell ⟨g,off + Q.length,none⟩ (.int .i64 (k:Int)):=by rw [Nat.mul_one]; rfl
   rw [e]
   refine h g _ c _ ⟨off,_,rfl,h2,h3.set_ (off + Q.length) _,by simp; omega,h5,by simp; omega,fun j u hj=>?_⟩ ⟨rfl,rfl,rfl,by simp [World.setCell],fun i hi hne=>Below.heap_setCell _ _ _ _ (fun e=>hne (by rw [e]))⟩ (.inl rfl)
   rw [Array.getElem?_setIfInBounds]
   by_cases hj2:j < Q.length
   · rw [if_neg (by omega)]
     refine h7 j u ?_
     unfold nats at hj ⊢
     rw [List.map_append,List.getElem?_append_left (by simpa using hj2)] at hj
     exact hj
   have hj3:j < Q.length + 1:=by have:=(List.getElem?_eq_some_iff.1 hj).1; simpa [nats] using this
   obtain rfl:j=Q.length:=by omega
   rw [if_pos rfl,if_pos (by omega)]
   unfold nats at hj
   rw [List.map_append,List.getElem?_append_right (by simp)] at hj
   simpa using hj
 have hl':(Q ++ [k]).length=Q.length + 1:=by simp
 rcases ho'.2 with ⟨_,h0⟩ | ⟨g',cap,cur',rfl,q1,q2,q3,q4,q5,q6⟩
 · omega
 refine h g' _ cap w' ⟨0,cur',rfl,Nat.le_trans hb q1,q2,by rw [hl']; exact q3,q4,by omega,fun j u hj=>?_⟩ ⟨hg'.os,hg'.tape,hg'.output,hg'.size,fun i hi _=>hg'.block i hi (by simp)⟩ (.inr q1)
 have hn:nats (Q ++ [k])=nats Q ++ [.int .i64 (k:Int)]:=by simp [nats]
 rw [hn,← q6,List.getElem?_take] at hj
 split at hj
 · rw [Nat.zero_add,← Array.getElem?_toList]; exact hj
 cases hj
end
end
section
structure VOk (n:Nat) (s:List Nat × List Nat):Prop where
 nodup:s.1.Nodup
 lt:∀ x ∈ s.1,x < n
 len:s.2.length ≤ s.1.length
theorem VOk.visit {n k:Nat} {s:List Nat × List Nat} (h:VOk n s) (hk:k < n):VOk n (visit s k):=by
 have hv:=visit_one s k
 refine ⟨hv.nodup h.nodup,fun x hx=>?_,by have:=hv.len; have:=h.len; omega⟩
 rcases hv.only x hx with e | ⟨e,_⟩
 · exact h.lt x e
 simp at e; omega
theorem VOk.bound {n:Nat} {s:List Nat × List Nat} (h:VOk n s):s.1.length ≤ n:=by
 have:=nodup_le s.1 (List.range n) h.nodup fun x hx=>by simp; exact h.lt x hx
 simpa using this
structure TogAt (w0 wr:World) (be br g:Nat) (A:Option Addr) (c:Nat) (E:Int → List Nat) (R Q:List Nat) (fe:Value → Option Value) (ne:Nat):Prop where
 h1:w0.heap.size ≤ be
 h2:w0.heap.size ≤ br
 hne:be ≠ br
 ends:MapV Tryz.prog 3 wr be ne fe
 had:HadAt wr w0.heap.size ik fe E
 reach:ReachAt wr br R
 q:QRow wr w0.heap.size g A c Q
 apart:∀ x u,fe (ik x)=some u → u.ownBlock ≠ some g
 below:Below w0.heap.size w0 wr
section
variable {w0 wr w':World} {be br g c ne:Nat} {A:Option Addr} {E:Int → List Nat} {R Q:List Nat} {fe:Value → Option Value}
theorem TogAt.keep (h:TogAt w0 wr be br g A c E R Q fe ne) (hb:Below wr.heap.size wr w'):TogAt w0 w' be br g A c E R Q fe ne :=
 ⟨h.h1,h.h2,h.hne,h.ends.below hb h.ends.lt,h.had.below hb,h.reach.keep (hb.block _ h.reach.lt),h.q.keep (hb.block _ h.q.lt),h.apart,h.below.trans (hb.mono h.below.size)⟩
theorem TogAt.eqs {R' Q':List Nat} (h:TogAt w0 wr be br g A c E R Q fe ne) (e1:R'=R) (e2:Q'=Q):TogAt w0 wr be br g A c E R' Q' fe ne:=by subst e1 e2; exact h
theorem HadAt.keepR {w w':World} {base:Nat} {κ:Type} {enc:κ → Value} {f:Value → Option Value} {H:κ → List Nat} (h:HadAt w base enc f H) (hk:∀ x u i,f (enc x)=some u → u.ownBlock=some i → i < w.heap.size → w'.heap[i]?=w.heap[i]?):HadAt w' base enc f H :=
 ⟨h.none_,fun k hne=>by
  obtain ⟨A,c,h1,h2⟩:=h.some_ k hne
  exact ⟨A,c,h1,own_same h2 fun i hi=>hk k _ i h1 hi (h2.lt i hi).2⟩,h.apart⟩
theorem TogAt.pop {i off:Nat} (h:TogAt w0 wr be br g (some ⟨g,off,none⟩) c E R (i :: Q) fe ne):TogAt w0 wr be br g (if c=1 then some ⟨g,off,none⟩ else some ⟨g,off + 1,none⟩) (c - 1) E R Q fe ne :=
 ⟨h.h1,h.h2,h.hne,h.ends,h.had,h.reach,h.q.tail,h.apart,h.below⟩
theorem TogAt.rowQ (h:TogAt w0 wr be br g A c E R Q fe ne) {x:Int} (hx:(Lit.int .i64 x).wf=true):∃ Ak ck,(fe (ik x)).getD (.slice none 0 0)=.slice Ak (E x).length ck ∧
  (Instr.lookup 180 (.map (some be)) (.int .i64 x) false).run Tryz.prog wr=.ok (.slice Ak (E x).length ck) wr:=by
 have hz:(zeroValue 30).run Tryz.prog wr=.ok (.slice none 0 0) wr:=by kernel_rfl
 have hlk:=h.ends.look keyedI Tryz.underlying180 hz (ik_key hx) false
 obtain ⟨Ak,ck,e1,_,_⟩:=h.had.look x
 rw [if_neg (by decide),e1] at hlk
 exact ⟨Ak,ck,e1,hlk⟩
theorem TogAt.visit_ (h:TogAt w0 wr be br g A c E R Q fe ne) {k:Nat} (hk:k ≤ 9223372036854775807) (hR:k ∉ R) (hl:R.length < maxLen) :
  ∃ es clock,(Instr.mapUpdate 144 (.map (some br)) (.int .i64 (k:Int)) (.bool true)).run Tryz.prog wr=.ok () (ChangeMaps.setBlock wr br (.map es clock)) ∧ TogAt w0 (ChangeMaps.setBlock wr br (.map es clock)) be br g A c E (R ++ [k]) Q fe ne:=by
 obtain ⟨es,clock,hrun,hr⟩:=h.reach.store hk hR hl
 have hno:∀ {i t cs},Blk wr i t cs → i ≠ br:=fun hb e=>h.reach.ne_blk hb e.symm
 obtain ⟨cs,hq⟩:=h.q.blk
 exact ⟨es,clock,hrun,h.h1,h.h2,h.hne,h.ends.setBlock h.hne _,h.had.keep fun i cs hb=>heap_setBlock_ne _ _ _ (hno hb),hr,h.q.keep (heap_setBlock_ne _ _ _ (hno hq)),h.apart,
  h.below.trans (((Only.refl (fun i=>i=br) wr).setBlock (.inl rfl) _).below h.below.size fun k hk e=>by have:=h.h2; omega)⟩
theorem TogAt.push {wx w1:World} {g' c':Nat} {A':Option Addr} {k:Nat} (h:TogAt w0 wx be br g A c E R Q fe ne) (hq:QRow w1 w0.heap.size g' A' c' (Q ++ [k])) (hg:wx.grownBy w1 (some g)) (hat:g'=g ∨ wx.heap.size ≤ g') :
  TogAt w0 w1 be br g' A' c' E R (Q ++ [k]) fe ne:=by
 obtain ⟨cs,hqb⟩:=h.q.blk
 have hbg:w0.heap.size ≤ g:=by obtain ⟨off,cur,_,h2,_⟩:=h.q; exact h2
 refine ⟨h.h1,h.h2,h.hne,h.ends.grown hg fun e=>?_,h.had.keepR fun x u i hu hi hl=>hg.block i hl fun e=>?_,h.reach.keep (hg.block _ h.reach.lt fun e=>?_),hq,fun x u hu e=>?_,h.below.grown hg h.below.size fun k hk=>?_⟩
 · injection e with e; exact h.ends.ne_blk hqb e
 · exact h.apart x u hu (hi.trans e)
 · injection e with e; exact h.reach.ne_blk hqb e
 · rcases hat with rfl | hat
   · exact h.apart x u hu e
   have hne:E x ≠ []:=fun e0=>by rw [h.had.none_ x e0] at hu; cases hu
   obtain ⟨Ak,ck,e1,hr⟩:=h.had.some_ x hne
   rw [hu] at e1
   injection e1 with e1
   subst e1
   have:=(hr.lt _ e).2
   omega
 injection hk with hk; omega
end
end
section
theorem verts_at (t:Tri) {j:Nat} (hj:j < 3):∃ x,(verts t)[j]?=some x ∧ ∀ w,(Instr.index 65 (.agg #[.int .i64 t.a,.int .i64 t.b,.int .i64 t.c]) (.int .i64 (j:Int))).run Tryz.prog w=.ok (.int .i64 x) w:=by
 rcases (by omega:j=0 ∨ j=1 ∨ j=2) with rfl | rfl | rfl
 · exact ⟨t.a,rfl,fun _=>by kernel_rfl⟩
 · exact ⟨t.b,rfl,fun _=>by kernel_rfl⟩
 exact ⟨t.c,rfl,fun _=>by kernel_rfl⟩
theorem verts_wf {m:Nat} {t:Tri} (h:TriOk m t) (hm:m ≤ 4096):∀ x ∈ verts t,(Lit.int .i64 x).wf=true:=by
 obtain ⟨w1,w2,w3⟩:=triOk_wf h hm
 intro x hx
 simp [verts] at hx
 rcases hx with rfl | rfl | rfl <;> assumption
theorem together_any (m:Nat) (v:Int) (A At:Option Addr) (n c ct:Nat) (T:List Tri) (S:List Nat) (w:World) (hm:m ≤ 4096) (hn:n ≤ 1000) (ht:TrisAt w w.heap.size A n T) (hok:∀ t ∈ T,TriOk m t)
  (hS:Reads w w.heap.size 1 At S.length (nats S)) (hSn:S.Nodup) (hSl:∀ i ∈ S,i < n) (hS0:S ≠ []) :
  Calls Tryz.prog 100 #[.agg #[.int .i64 m,.slice A n c],.int .i64 v,.slice At S.length ct] w fun e w'=>e=.returned (.bool (connB T v S)) ∧ Below w.heap.size w w':=by
 obtain ⟨i1,hi1,hy0,hy1,hy2⟩:=info_parts int_info
 have hSlen:S.length ≤ n:=by
  have:=nodup_le S (List.range n) hSn fun x hx=>by simp; exact hSl x hx
  simpa using this
 have hSpos:0 < S.length:=List.length_pos_iff.2 hS0
 have HT:=jJ ht
 have HOK:=jJ hok
 have HS:=jJ hS
 have HSN:=jJ hSn
 have HSL:=jJ hSl
 have HS0:=jJ hS0
 clear ht hok hS hSn hSl hS0
 have hmm:=@run_makeMap Tryz.prog
 go_enter Tryz.func100,Tryz.ntmps100
 go_wp2_with fail
 obtain ⟨W,hW⟩:=jX (w.alloc (.cells #[.int .i64 m,.slice A n c] 24))
 have HX:Hid (Blk W w.heap.size 24 #[.int .i64 m,.slice A n c]):=by subst hW; exact jJ (Blk.new _ _ _)
 have HW:Hid (Below w.heap.size w W):=by subst hW; exact jJ ((Below.refl _ _).alloc (Nat.le_refl _) _)
 have hws:w.heap.size < W.heap.size:=HX.out.lt
 have hWs:W.heap.size=w.heap.size + 1:=by subst hW; simp
 rw [← hWs,← hW]
 clear hW hWs
 have HE0:Hid (EndsAt (W.alloc (.map #[] 0)) W.heap.size W.heap.size 0 fun _=>[]):=jJ ⟨_,0,Nat.le_refl _,MapV.made _ _ _,HadAt.start _ _ _⟩
 have HB0:Hid (Below W.heap.size W (W.alloc (.map #[] 0))):=jJ ((Below.refl _ _).alloc (Nat.le_refl _) _)
 have HMM:=jJ hmm
 clear hmm
 go_loopw [22] (fun iv wr=>∃ k:Nat,k ≤ S.length ∧ iv=.int .i64 k ∧ Hid (EndsAt wr W.heap.size W.heap.size (3 * k) ((S.take k).foldl (triE T v) fun _=>[])) ∧ Hid (Below W.heap.size W wr)) (fun iv _=>S.length - (intOf iv).toNat)
 case atStart=>exact ⟨0,by omega,rfl,HE0,HB0⟩
 obtain ⟨k,hk,rfl,HE,HB⟩:=hrel
 clear HE0 HB0
 have hwz:=HB.out.size
 have b1:=(HX.out.below HB.out hws).cell 1
 simp at b1
 by_cases hlt:k < S.length
 · obtain ⟨ads,us,rfl,hads,hus,hcs⟩:=((HS.out.below HW.out).below (HB.out.mono (Nat.le_of_lt hws))).at_ hlt
   obtain ⟨i,hi⟩:∃ i,S[k]?=some i:=⟨_,List.getElem?_eq_getElem hlt⟩
   obtain rfl:us=.int .i64 (i:Int):=by
    unfold nats at hus
    rw [List.getElem?_map,hi] at hus
    exact (Option.some.inj hus).symm
   have hin:=HSL.out i (List.mem_of_getElem? hi)
   obtain ⟨ad,t,rfl,htk,htm,hadb,hc3⟩:=((HT.out.below HW.out).below (HB.out.mono (Nat.le_of_lt hws))).at_ hin
   obtain ⟨d0,d1,d2,d3,d4,d5⟩:=hc3
   have HEK:Hid ((S.take (k + 1)).foldl (triE T v) (fun _=>[])=(verts t).foldl (addE v i) ((S.take k).foldl (triE T v) fun _=>[])):=by
    refine jJ ?_
    rw [foldl_snoc_take _ _ _ _ hi]
    unfold triE
    rw [tri_of htk]
   have HSE:Hid (ShortE ((S.take k).foldl (triE T v) fun _=>[]) (3 * k) n):=by
    have h1:=foldT_short T v (n:=n) (S.take k) (fun _=>[]) 0 (fun i hi=>HSL.out i (List.mem_of_mem_take hi)) (fun y=>⟨Nat.le_refl _,fun k hk=>by cases hk⟩)
    refine jJ fun y=>⟨Nat.le_trans (h1 y).1 ?_,(h1 y).2⟩
    rw [List.length_take]
    omega
   have HVW:=jJ (verts_wf (HOK.out t htm) hm)
   generalize (S.take k).foldl (triE T v) (fun _=>[])=Ek at *
   obtain ⟨ta,tb,tc⟩:=t
   have HVA:=jJ (fun j hj=>verts_at ⟨ta,tb,tc⟩ (j:=j) hj)
   generalize hvs:verts ⟨ta,tb,tc⟩=vs at *
   have hvl:vs.length=3:=by rw [← hvs]; rfl
   simp only at d0 d1 d2 d3 d4 d5
   have HVL:=jJ hvl
   clear hus hi htk htm hvs hvl
   go_wp2_with fail
   obtain ⟨wB,rfl⟩:=jX (wr:World)
   go_loopw [31] (fun jv wq=>∃ j:Nat,j ≤ 3 ∧ jv=.int .i64 j ∧ Hid (EndsAt wq W.heap.size W.heap.size (3 * k + j) ((vs.take j).foldl (addE v i) Ek)) ∧ Hid (Below W.heap.size W wq)) (fun jv _=>3 - (intOf jv).toNat)
   case atStart=>exact ⟨0,by omega,rfl,HE,HB⟩
   obtain ⟨j,hj,rfl,HE2,HB2⟩:=hrel
   clear HE HB
   by_cases hjt:j < 3
   · obtain ⟨x,hx,hix⟩:=HVA.out j hjt
     have HES:Hid ((vs.take (j + 1)).foldl (addE v i) Ek=addE v i ((vs.take j).foldl (addE v i) Ek) x):=jJ (foldl_snoc_take _ _ _ _ hx)
     have hxw:=HVW.out x (List.mem_of_getElem? hx)
     have HSJ:Hid (ShortE ((vs.take j).foldl (addE v i) Ek) (3 * k + 3) n):=by
      have h1:=foldE_short (v:=v) hin (vs.take j) Ek (3 * k) HSE.out
      refine jJ fun y=>⟨Nat.le_trans (h1 y).1 ?_,(h1 y).2⟩
      rw [List.length_take]
      omega
     generalize (vs.take j).foldl (addE v i) Ek=Ej at *
     clear hx
     by_cases hxv:x=v
     · have HA:Hid (addE v i Ej x=Ej):=jJ (by unfold addE; rw [if_pos hxv])
       have hne:(x != v)=false:=by rw [bne_eq_false_iff_eq]; exact hxv
       have HXV:=jJ hxv
       clear hxv
       go_wp2_with fail
       refine ⟨⟨j + 1,by omega,by go_num,?_,HB2⟩,by simp [intOf]; omega⟩
       rw [HES.out,HA.out]
       exact jJ (HE2.out.more (by omega))
     have HA:Hid (addE v i Ej x=fun y=>if y=x then Ej x ++ [i] else Ej y):=jJ (by unfold addE; rw [if_neg hxv])
     have hne:(x != v)=true:=by rw [bne_iff_ne]; exact hxv
     have hmx:(maxLen:Nat)=9223372036854775807:=rfl
     obtain ⟨Ak,ck,hlk,happ⟩:=HE2.out.app hxw (by omega) i (Nat.le_refl _) HB2.out.size
     obtain ⟨hrow,happ2⟩:=happ (wr.alloc (.cells #[.int .i64 i] 3)) ((Below.refl _ _).alloc (Nat.le_refl _) _)
     have HROW:=jJ hrow
     have HAPP:=jJ happ2
     have hbz:=HB2.out.size
     have hej:(Ej x).length ≤ 1000000:=Nat.le_trans (HSJ.out x).1 (by omega)
     clear hrow happ happ2 hxv hmx hxw
     go_wp2_with (at_builtin; go_must (refine wpList_append_sl _ rfl (.tmp 41) (.tmp 43) _ rfl W.heap.size 3 i1 _ 1 8 Tryz.underlying30 hi1 hy0 hy1 hy2 rfl (by omega) (.slice Ak (Ej x).length ck) _ _ rfl HROW.out (wr.heap.size + 1) (some ⟨wr.heap.size,0,none⟩) 1 1 [.int .i64 (i:Int)] rfl (reads_newN _ _ _ 1 1 rfl rfl) (by simp [Value.oneCell']) (by simp only [maxLen]; omega) (by omega) (by simp; omega) ?_); intro A1 c1 w1 hown1 hg1 hat1; obtain ⟨es,clock,hst,he5,hb5⟩:=HAPP.out w1 _ _ hown1 hg1 hat1; have HE5:=jJ he5; have HB5:=jJ hb5; clear he5 hb5 hown1 hg1 hat1)
     refine ⟨⟨j + 1,by omega,by go_num,?_,?_⟩,by simp [intOf]; omega⟩
     · rw [HES.out,HA.out]
       exact HE5
     exact jJ ((HB2.out.alloc HB2.out.size _).trans HB5.out)
   obtain rfl:j=3:=by omega
   go_wp2_with fail
   refine ⟨⟨k + 1,by omega,by go_num,?_,HB2⟩,by simp [intOf]; omega⟩
   have:=HE2.out
   rw [List.take_of_length_le (by rw [HVL.out]; exact Nat.le_refl _)] at this
   rw [HEK.out]
   exact jJ this
 obtain rfl:k=S.length:=by omega
 rw [List.take_length] at HE
 have hmm:=HMM.out
 obtain ⟨ads,us,rfl,hads,hus,hcs⟩:=((HS.out.below HW.out).below (HB.out.mono (Nat.le_of_lt hws))).at_ hSpos
 obtain ⟨s0,hs0⟩:∃ s0,S[0]?=some s0:=⟨_,List.getElem?_eq_getElem hSpos⟩
 have HS00:Hid (S.headD 0=s0):=by
  refine jJ ?_
  cases S with
  | nil=>cases hs0
  | cons a l=>simpa using hs0
 obtain rfl:us=.int .i64 (s0:Int):=by
  unfold nats at hus
  rw [List.getElem?_map,hs0] at hus
  exact (Option.some.inj hus).symm
 have hs0n:=HSL.out s0 (List.mem_of_getElem? hs0)
 rw [add_zero_] at hcs
 have hcs2:wr.cell? (ads.add 0)=some (.int .i64 (s0:Int)):=by rw [add_zero_]; exact hcs
 have hra:ReachAt (wr.alloc (.map #[] 0)) wr.heap.size []:=⟨_,MapV.made _ _ _,fun k=>⟨(fun h=>by cases h),fun _=>rfl⟩⟩
 obtain ⟨es,clock,hst,hra2⟩:=hra.store (k:=s0) (by omega) (by simp) (by simp [maxLen])
 have hadsl:ads.block < wr.heap.size:=by omega
 have hcs3:(ChangeMaps.setBlock (wr.alloc (.map #[] 0)) wr.heap.size (.map es clock)).cell? ads=some (.int .i64 (s0:Int)):=by
  rw [World.cell?_of_block (w:=wr) (heap_setBlock_ne _ _ _ (by omega) |>.trans (Below.heap_alloc _ _ _ hadsl))]
  exact hcs
 have HRA:=jJ hra2
 clear hus hs0 hra hra2 hlt hk
 go_wp2_with fail
 obtain ⟨fe,ne,hne,hmE,hhE⟩:=HE.out
 obtain ⟨X,hX⟩:=jX (ChangeMaps.setBlock (wr.alloc (.map #[] 0)) wr.heap.size (.map es clock))
 have hwW:W.heap.size < wr.heap.size:=hmE.lt
 have hXs:X.heap.size=wr.heap.size + 1:=by subst hX; simp [ChangeMaps.setBlock]
 have hXb:∀ i,i < wr.heap.size → X.heap[i]?=wr.heap[i]?:=by
  intro i hi
  subst hX
  exact (heap_setBlock_ne _ _ _ (by omega)).trans (Below.heap_alloc _ _ _ hi)
 have HBX:Hid (Below W.heap.size W X):=by
  subst hX
  exact jJ ((HB.out.alloc HB.out.size _).trans (((Only.refl (fun i=>i=wr.heap.size) _).setBlock (.inl rfl) _).below (by simp; omega) fun k hk e=>by omega))
 have HTG:Hid (TogAt W (X.alloc (.cells #[.int .i64 s0] 3)) W.heap.size wr.heap.size X.heap.size (some ⟨X.heap.size,0,none⟩) 1 (S.foldl (triE T v) fun _=>[]) [s0] [s0] fe ne):=by
  refine jJ ⟨Nat.le_refl _,by omega,by omega,(hmE.same (hXb _ hwW)).alloc _,(hhE.keep fun i cs hb=>(Below.heap_alloc _ _ _ (by have:=hb.lt; omega)).trans (hXb i hb.lt)),?_,QRow.new X (by omega) s0,fun x u hu e=>?_,HBX.out.alloc HBX.out.size _⟩
  · have h1:=HRA.out
    rw [← hX] at h1
    exact h1.keep (Below.heap_alloc _ _ _ h1.lt)
  have hne2:(S.foldl (triE T v) fun _=>[]) x ≠ []:=fun e0=>by rw [hhE.none_ x e0] at hu; cases hu
  obtain ⟨Ak,ck,e1,hr⟩:=hhE.some_ x hne2
  rw [hu] at e1
  injection e1 with e1
  subst e1
  have:=(hr.lt _ e).2
  omega
 have HSI:Hid (SInv T v S ([s0],[s0])):=by
  have:=sinv_start T v HS0.out
  rw [HS00.out] at this
  exact jJ this
 have HVO:Hid (VOk n ([s0],[s0])):=jJ ⟨by simp,fun x hx=>by rw [List.mem_singleton.1 hx]; exact hs0n,Nat.le_refl _⟩
 have hEf:(S.foldl (triE T v) fun _=>[])=endsF T v S:=rfl
 rw [hEf] at HTG
 have HSE:Hid (ShortE (endsF T v S) (3 * S.length) n):=by
  have h1:=foldT_short T v (n:=n) S (fun _=>[]) 0 (fun i hi=>HSL.out i hi) (fun y=>⟨Nat.le_refl _,fun k hk=>by cases hk⟩)
  rw [Nat.zero_add] at h1
  exact jJ h1
 rw [← hX]
 clear hEf hmE hhE hX hXs hXb HBX HRA hst HE hcs hcs2 hcs3 HB HMM hmm hne hwz
 generalize wr.heap.size=br at *
 generalize W.heap.size=be at *
 generalize hE:endsF T v S=E at *
 have HEE:=jJ hE
 clear hE
 go_loopg [13] (2 * (S.length - 1) + 1) (fun gk qv wz=>∃ R Q g A c,gk=2 * (S.length - R.length) + Q.length ∧ qv=.slice A Q.length c ∧ Hid (SInv T v S (R,Q)) ∧ Hid (VOk n (R,Q)) ∧ Hid (TogAt W wz be br g A c E R Q fe ne))
 case atStart=>exact ⟨[s0],[s0],_,_,1,rfl,rfl,HSI,HVO,HTG⟩
 obtain ⟨R,Q,g,Aq,cq,rfl,rfl,HSI,HVO,HTG⟩:=hrel
 have hwsW:w.heap.size < W.heap.size:=HX.out.lt
 cases Q with
 | nil =>
  obtain ⟨hend,_⟩:=sinv_end HSN.out HSI.out
  have hlen:=fun ty=>HTG.out.reach.len ty
  have HEND:Hid (Below w.heap.size w wr):=jJ (HW.out.trans (HTG.out.below.mono (Nat.le_of_lt hwsW)))
  by_cases he:R.length=S.length
  · have hb:((R.length:Int) == (S.length:Int))=true:=by rw [he]; exact beq_self_eq_true _
    have HC:Hid (connB T v S=true):=jJ ((connB_iff T v S).2 (hend.1 he))
    clear hend he
    go_wp2_with fail
    go_ret
    refine ⟨?_,HEND.out⟩
    rw [HC.out]
    first | rfl | (rw [← hb]; rfl)
  have hb:((R.length:Int) == (S.length:Int))=false:=by rw [beq_eq_false_iff_ne]; omega
  have HC:Hid (connB T v S=false):=by
   refine jJ ?_
   cases hcc:connB T v S with
   | false=>rfl
   | true=>exact absurd (hend.2 ((connB_iff T v S).1 hcc)) he
  clear hend he
  go_wp2_with fail
  go_ret
  refine ⟨?_,HEND.out⟩
  rw [HC.out]
  first | rfl | (rw [← hb]; rfl)
 | cons i Q =>
  obtain ⟨off,rfl,hhd⟩:=HTG.out.q.head
  have htl:=run_tail (g:=g) off cq (i :: Q).length (by simp)
  have hin:i < n:=HSL.out i (HSI.out.inS i (HSI.out.sub i (by simp)))
  have hbl:=HTG.out.below
  obtain ⟨ad,t,rfl,htk,htm,hadb,hc3⟩:=((HT.out.below HW.out).below (hbl.mono (Nat.le_of_lt hwsW))).at_ hin
  obtain ⟨d0,d1,d2,d3,d4,d5⟩:=hc3
  have b1:=(HX.out.below hbl hwsW).cell 1
  simp at b1
  have hstep:=sinv_step HSI.out
  rw [HEE.out,tri_of htk] at hstep
  have HSTEP:=jJ hstep
  have HVW:=jJ (verts_wf (HOK.out t htm) hm)
  have hql:=HVO.out.len
  have hrb:=HVO.out.bound
  have HVO2:Hid (VOk n (R,Q)):=jJ ⟨HVO.out.nodup,HVO.out.lt,by have:=HVO.out.len; simp at this ⊢; omega⟩
  have HTG2:=jJ HTG.out.pop
  have HSW:=jJ hwsW
  obtain ⟨ta,tb,tc⟩:=t
  have HVA:=jJ (fun j hj=>verts_at ⟨ta,tb,tc⟩ (j:=j) hj)
  generalize hvs:verts ⟨ta,tb,tc⟩=vs at *
  have hvl:vs.length=3:=by rw [← hvs]; rfl
  have HVL:=jJ hvl
  simp only [List.length_cons] at htl hql
  rw [show Q.length + 1 - 1=Q.length by omega] at htl
  simp only at d0 d1 d2 d3 d4 d5 hrb
  generalize hA':(if cq=1 then some (⟨g,off,none⟩:Addr) else some ⟨g,off + 1,none⟩)=Ac at *
  clear hstep htk htm hvs hvl hbl hwsW HSI HVO HTG hA'
  go_wp2_with fail
  obtain ⟨wB,rfl⟩:=jX (wr:World)
  go_loopw [13,69] (fun qv jv wq=>∃ j:Nat,j ≤ 3 ∧ jv=.int .i64 j ∧ ∃ g A c,qv=.slice A ((vs.take j).foldl (fromV E v) (R,Q)).2.length c ∧ Hid (VOk n ((vs.take j).foldl (fromV E v) (R,Q))) ∧ Hid (TogAt W wq be br g A c E ((vs.take j).foldl (fromV E v) (R,Q)).1 ((vs.take j).foldl (fromV E v) (R,Q)).2 fe ne)) (fun _ jv _=>3 - (intOf jv).toNat)
  case atStart=>exact ⟨0,by omega,rfl,g,Ac,_,rfl,HVO2,HTG2⟩
  obtain ⟨j,hj,rfl,g2,A2,c2,rfl,HVJ,HTJ⟩:=hrel
  clear HVO2 HTG2
  by_cases hjt:j < 3
  · obtain ⟨x,hx,hix⟩:=HVA.out j hjt
    have HSS:Hid ((vs.take (j + 1)).foldl (fromV E v) (R,Q)=fromV E v ((vs.take j).foldl (fromV E v) (R,Q)) x):=jJ (foldl_snoc_take _ _ _ _ hx)
    have hxw:=HVW.out x (List.mem_of_getElem? hx)
    generalize (vs.take j).foldl (fromV E v) (R,Q)=sj at *
    clear hx
    by_cases hxv:x=v
    · have HA:Hid (fromV E v sj x=sj):=jJ (by unfold fromV; rw [if_pos hxv])
      have he:(x == v)=true:=by rw [beq_iff_eq]; exact hxv
      have HXV:=jJ hxv
      clear hxv
      go_wp2_with fail
      refine ⟨⟨j + 1,by omega,by go_num,g2,A2,c2,?_,?_,?_⟩,by simp [intOf]; omega⟩
      · rw [HSS.out,HA.out]
      · rw [HSS.out,HA.out]; exact HVJ
      rw [HSS.out,HA.out]; exact HTJ
    have HA:Hid (fromV E v sj x=(E x).foldl visit sj):=jJ (by unfold fromV; rw [if_neg hxv])
    have he:(x == v)=false:=by rw [beq_eq_false_iff_ne]; exact hxv
    obtain ⟨Ak,ck,hfe,hlk⟩:=HTJ.out.rowQ hxw
    have HFE:=jJ hfe
    have hjd:decide ((j:Int) < 3)=true:=decide_eq_true (by omega)
    have hEl:=(HSE.out x).1
    have HEL:=jJ (HSE.out x).2
    clear hxv hfe
    go_wp2_with fail
    clear hlk
    obtain ⟨wC,rfl⟩:=jX (wr:World)
    go_loopw [13,79] (fun qv av wq=>∃ a:Nat,a ≤ (E x).length ∧ av=.int .i64 a ∧ ∃ g A c,qv=.slice A (((E x).take a).foldl visit sj).2.length c ∧ Hid (VOk n (((E x).take a).foldl visit sj)) ∧ Hid (TogAt W wq be br g A c E (((E x).take a).foldl visit sj).1 (((E x).take a).foldl visit sj).2 fe ne)) (fun _ av _=>(E x).length - (intOf av).toNat)
    case atStart=>exact ⟨0,by omega,rfl,g2,A2,c2,rfl,HVJ,HTJ⟩
    obtain ⟨a,ha,rfl,g3,A3,c3,rfl,HVK,HTK⟩:=hrel
    clear HVJ HTJ
    by_cases hat:a < (E x).length
    · obtain ⟨k,hk⟩:∃ k,(E x)[a]?=some k:=⟨_,List.getElem?_eq_getElem hat⟩
      have HVS:Hid (((E x).take (a + 1)).foldl visit sj=visit (((E x).take a).foldl visit sj) k):=jJ (foldl_snoc_take _ _ _ _ hk)
      have hkn:k < n:=HEL.out k (List.mem_of_getElem? hk)
      obtain ⟨adr,ur,er,hadr,hur,hcr⟩:=(Reads.of_own (HTK.out.had.row_of HFE.out)).at_ hat
      obtain rfl:ur=.int .i64 (k:Int):=by
       unfold nats at hur
       rw [List.getElem?_map,hk] at hur
       exact (Option.some.inj hur).symm
      generalize ((E x).take a).foldl visit sj=sa at *
      have hql2:=HVK.out.len
      have hrb2:=HVK.out.bound
      have hlq:=HTK.out.reach.look (k:=k) (by omega)
      subst er
      clear hk hur
      by_cases hin2:k ∈ sa.1
      · have HB:Hid (visit sa k=sa):=jJ (by unfold visit; rw [if_pos hin2])
        rw [decide_eq_true hin2] at hlq
        clear hin2
        go_wp2_with fail
        refine ⟨⟨a + 1,by omega,by go_num,g3,A3,c3,?_,?_,?_⟩,by simp [intOf]; omega⟩
        · rw [HVS.out,HB.out]
        · rw [HVS.out,HB.out]; exact HVK
        rw [HVS.out,HB.out]; exact HTK
      have HB:Hid (visit sa k=(sa.1 ++ [k],sa.2 ++ [k])):=jJ (by unfold visit; rw [if_neg hin2])
      have HVK2:=jJ (HVK.out.visit hkn)
      have hmx:(maxLen:Nat)=9223372036854775807:=rfl
      obtain ⟨es2,clock2,hst2,htg2⟩:=HTK.out.visit_ (k:=k) (by omega) hin2 (by omega)
      rw [decide_eq_false hin2] at hlq
      have HTV:=jJ htg2
      have HTA:=jJ (htg2.keep ((Below.refl _ (ChangeMaps.setBlock wr br (.map es2 clock2))).alloc (Nat.le_refl _) (.cells #[.int .i64 k] 3)))
      have hnc:((ChangeMaps.setBlock wr br (.map es2 clock2)).alloc (.cells #[.int .i64 k] 3)).cell? ⟨(ChangeMaps.setBlock wr br (.map es2 clock2)).heap.size,0,none⟩=some (.int .i64 (k:Int)):=(Blk.new _ _ _).cell 0
      have HNC:=jJ hnc
      have HBW:=jJ HTA.out.below.size
      clear hin2 htg2 hmx hnc HVK HTK
      go_wp2_with (at_builtin; go_must (refine wpList_append_q rfl (.tmp 89) (.tmp 91) rfl HTA.out.q rfl ⟨(ChangeMaps.setBlock wr br (.map es2 clock2)).heap.size,0,none⟩ k rfl HNC.out (by omega) HBW.out ?_); intro g' A' c' w1 hq1 hg1 hat1)
      have q1:Value.slice A' (sa.2.length + 1) c'=Value.slice A' (((E x).take (a + 1)).foldl visit sj).2.length c':=by rw [HVS.out,HB.out]; simp
      have q2:Hid (VOk n (((E x).take (a + 1)).foldl visit sj)):=by rw [HVS.out]; exact HVK2
      have q3:Hid (TogAt W w1 be br g' A' c' E (((E x).take (a + 1)).foldl visit sj).1 (((E x).take (a + 1)).foldl visit sj).2 fe ne):=by rw [HVS.out,HB.out]; exact jJ (HTA.out.push hq1 hg1 hat1)
      exact ⟨⟨a + 1,by omega,by go_num,g',A',c',q1,q2,q3⟩,by simp [intOf]; omega⟩
    obtain rfl:a=(E x).length:=by omega
    go_wp2_with fail
    refine ⟨⟨j + 1,by omega,by go_num,g3,A3,c3,?_,?_,?_⟩,by simp [intOf]; omega⟩
    · rw [HSS.out,HA.out,List.take_length]
    · rw [HSS.out,HA.out]
      have:=HVK.out
      rw [List.take_length] at this
      exact jJ this
    rw [HSS.out,HA.out]
    have:=HTK.out
    rw [List.take_length] at this
    exact jJ this
  obtain rfl:j=3:=by omega
  have e3:vs.take 3=vs:=List.take_of_length_le (by rw [HVL.out]; exact Nat.le_refl _)
  have HE3:=jJ e3
  clear e3
  go_wp2_with fail
  go_roundg (2 * (S.length - ((vs.take 3).foldl (fromV E v) (R,Q)).1.length) + ((vs.take 3).foldl (fromV E v) (R,Q)).2.length)
  case measure =>
   have:=HSTEP.out.2
   rw [HE3.out]
   exact this
  case rel =>
   refine ⟨_,_,g2,A2,c2,rfl,rfl,?_,HVJ,HTJ⟩
   have:=HSTEP.out.1
   rw [← HE3.out] at this
   exact jJ this
end
section
def atL (T:List Tri) (k:Nat) (v:Int):List Nat:=(List.range k).filter fun i=>decide (v ∈ verts (tri T i))
theorem triE_eq {T:List Tri} {i m:Nat} {t:Tri} (ht:T[i]?=some t) (h:TriOk m t) (E:Int → List Nat) (v:Int):triE T (-1) E i v=if v ∈ verts (tri T i) then E v ++ [i] else E v:=by
 unfold triE
 rw [tri_of ht]
 obtain ⟨a0,_,b0,_,c0,_,h1,h2,h3⟩:=h
 obtain ⟨a,b,c⟩:=t
 simp only at a0 b0 c0 h1 h2 h3
 have e1:¬ a=-1:=by omega
 have e2:¬ b=-1:=by omega
 have e3:¬ c=-1:=by omega
 simp only [verts,List.foldl_cons,List.foldl_nil,addE,if_neg e1,if_neg e2,if_neg e3,List.mem_cons,List.not_mem_nil,or_false]
 have h1':¬ b=a:=fun e=>h1 e.symm
 have h2':¬ c=b:=fun e=>h2 e.symm
 have h3':¬ a=c:=fun e=>h3 e.symm
 by_cases hc:v=c
 · subst hc
   simp [h2',h3]
 by_cases hb:v=b
 · subst hb
   simp [h2,h1']
 by_cases ha:v=a
 · subst ha
   simp [h1,h3']
 simp [ha,hb,hc]
theorem atL_succ {T:List Tri} {k m:Nat} {t:Tri} (ht:T[k]?=some t) (h:TriOk m t):atL T (k + 1)=(verts t).foldl (addE (-1) k) (atL T k):=by
 funext v
 have h1:=triE_eq ht h (atL T k) v
 unfold triE at h1
 rw [tri_of ht] at h1
 rw [h1]
 unfold atL
 rw [List.range_succ,List.filter_append]
 by_cases hv:v ∈ verts (tri T k)
 · have hv':v ∈ verts t:=by rw [← tri_of ht]; exact hv
   rw [if_pos hv']
   simp [hv]
 have hv':v ∉ verts t:=by rw [← tri_of ht]; exact hv
 rw [if_neg hv']
 simp [hv]
theorem atL_nodup (T:List Tri) (k:Nat) (v:Int):(atL T k v).Nodup:=List.Nodup.sublist List.filter_sublist List.nodup_range
theorem atL_lt {T:List Tri} {k:Nat} {v:Int}:∀ i ∈ atL T k v,i < k:=fun i hi=>by
 unfold atL at hi
 exact List.mem_range.1 (List.mem_filter.1 hi).1
theorem atL_len (T:List Tri) (k:Nat) (v:Int):(atL T k v).length ≤ k:=by
 unfold atL
 exact Nat.le_trans (List.length_filter_le _ _) (by simp)
theorem fold_len {i:Nat} (v:Int) (l:List Int) (E:Int → List Nat) (y:Int):(l.foldl (addE v i) E y).length ≤ (E y).length + l.length:=by
 induction l generalizing E with
 | nil=>exact Nat.le_refl _
 | cons x l ih =>
  rw [List.foldl_cons,List.length_cons]
  refine Nat.le_trans (ih _) ?_
  have:(addE v i E x y).length ≤ (E y).length + 1:=by
   unfold addE
   split
   · omega
   simp only
   split
   · rename_i h; subst h; simp
   omega
  omega
structure RowsAt (w:World) (base g m:Nat) (E:Int → List Nat) (cells:Array Value) (fe:Value → Option Value):Prop where
 blk:Blk w g 30 cells
 size:cells.size=m
 at_:∀ v,v < m → cells[v]?=some ((fe (ik (v:Int))).getD (.slice none 0 0))
 had:HadAt w base ik fe E
section
variable {w w':World} {base g m:Nat} {E:Int → List Nat} {cells:Array Value} {fe:Value → Option Value}
theorem RowsAt.below (h:RowsAt w base g m E cells fe) (hb:Below w.heap.size w w'):RowsAt w' base g m E cells fe:=⟨h.blk.below hb h.blk.lt,h.size,h.at_,h.had.below hb⟩
theorem RowsAt.row (h:RowsAt w base g m E cells fe) {v:Nat} (hv:v < m):∃ Ak ck,w.cell? ⟨g,v,none⟩=some (.slice Ak (E v).length ck) ∧ (fe (ik (v:Int))).getD (.slice none 0 0)=.slice Ak (E v).length ck ∧ NatRow w base Ak ck (E v):=by
 obtain ⟨Ak,ck,e1,e2,_⟩:=h.had.look (v:Int)
 exact ⟨Ak,ck,by rw [h.blk.cell,h.at_ v hv,e1],e1,e2⟩
theorem RowsAt.app (h:RowsAt w base g m E cells fe) {v:Nat} (hv:v < m) (i:Nat) {Ak:Option Addr} {ck:Nat} (hfe:(fe (ik (v:Int))).getD (.slice none 0 0)=.slice Ak (E v).length ck) {wx w1:World} (hx:Below w.heap.size w wx)
  {A1:Option Addr} {c1:Nat} (ho:w1.ownsRow base 3 1 (.slice A1 ((E v).length + 1) c1) ((E v).length + 1) (nats (E v) ++ [.int .i64 (i:Int)])) (hg:wx.grownBy w1 (Value.slice Ak (E v).length ck).ownBlock)
  (hat:(Value.slice A1 ((E v).length + 1) c1).ownBlock=(Value.slice Ak (E v).length ck).ownBlock ∨ (Value.slice A1 ((E v).length + 1) c1).ownBlock=some wx.heap.size) :
  w1.cell? ⟨g,v,none⟩=some (.slice Ak (E v).length ck) ∧ w1.frozen? ⟨g,v,none⟩=false ∧ ∃ cells' fe',RowsAt (w1.setCell ⟨g,v,none⟩ (.slice A1 ((E v).length + 1) c1)) base g m (fun y=>if y=(v:Int) then E v ++ [i] else E y) cells' fe':=by
 have hX:=h.below hx
 have hrow:=hX.had.row_of hfe
 have hgne:∀ {t cs},Blk wx g t cs → t ≠ 3 → some g ≠ (Value.slice Ak (E v).length ck).ownBlock:=fun hb ht e=>by
  obtain ⟨cs',hb'⟩:=own_blk hrow e.symm
  exact hb.ne_ hb' ht rfl
 have hb1:=hX.blk.grown hg (hgne hX.blk (by decide))
 refine ⟨by rw [hb1.cell,h.at_ v hv,hfe],hb1.frozen _,cells.setIfInBounds v (.slice A1 ((E v).length + 1) c1),putV fe (ik (v:Int)) (.slice A1 ((E v).length + 1) c1),hb1.set_ v _,by simpa using h.size,fun u hu=>?_,?_⟩
 · rw [Array.getElem?_setIfInBounds]
   by_cases e:v=u
   · subst e
     rw [if_pos rfl,if_pos (by rw [h.size]; exact hv),putV_same]
     rfl
   rw [if_neg e,putV_ne _ _ (fun e'=>e (by have:=ik_inj _ _ e'; omega)),h.at_ u hu]
 have hl:(E v ++ [i]).length=(E v).length + 1:=by simp
 obtain ⟨_,_,e1,_,e3⟩:=hX.had.look (v:Int)
 rw [hfe] at e1
 injection e1 with q1 _ q2
 subst q1 q2
 have hput:=hX.had.put (w':=w1) ik_inj (k:=(v:Int)) (v:=.slice Ak (E v).length ck) e3 (A':=A1) (c':=c1) (l:=E v ++ [i]) (by simp) (by unfold NatRow; rw [hl]; simpa [nats] using ho) hg
  (by rw [hl]; rcases hat with h | h; exact .inl h; exact .inr ⟨_,h,Nat.le_refl _⟩) (H':=fun y=>if y=(v:Int) then E v ++ [i] else E y) (by simp) (fun y hy=>by simp [hy])
 rw [hl] at hput
 exact hput.keep fun j cs hb=>Below.heap_setCell _ _ _ _ (hb.ne_ hb1 (by decide))
end
end
section
theorem ints_info:(Tryz.prog.info? 30).map (fun i=>(i.zero,i.size,i.bytes))=some (some (.slice none 0 0),1,24):=by kernel_rfl
theorem madeRows (m:Nat):madeCells (Value.slice none 0 0).cells m=Array.replicate m (.slice none 0 0):=by
 apply Array.ext'
 refine List.ext_getElem? fun i=>?_
 by_cases hi:i < m
 · simp [madeCells,hi,Value.cells,Nat.mod_one]
 simp [madeCells,hi,Value.cells]
theorem pinch_any (m:Nat) (A:Option Addr) (n c:Nat) (T:List Tri) (w:World) (hm:m ≤ 4096) (hn:n ≤ 1000) (ht:TrisAt w w.heap.size A n T) (hok:∀ t ∈ T,TriOk m t) (huse:∀ v,v < m → atL T n (v:Int) ≠ []) :
  Calls Tryz.prog 79 #[.agg #[.int .i64 m,.slice A n c]] w (WitPost w (picks 6 (fun v=>!connB T (v:Int) (atL T n (v:Int))) m)):=by
 obtain ⟨i0,hi0,hz0,hz1,hz2⟩:=info_parts wit_info
 obtain ⟨i1,hi1,hy0,hy1,hy2⟩:=info_parts int_info
 obtain ⟨i2,hi2,hx0,hx1,hx2⟩:=info_parts ints_info
 have hmk:=fun W=>run_make_rowN (P:=Tryz.prog) 95 30 i2 (.slice none 0 0) Tryz.underlying95 hi2 hx0 .i64 .i64 m m (Nat.le_refl _) (by rw [hx2]; omega) (by omega) W
 rw [hx1,Nat.mul_one,madeRows] at hmk
 have HT:=jJ ht
 have HOK:=jJ hok
 have HUSE:=jJ huse
 clear ht hok huse hx0 hx1 hx2
 go_enter Tryz.func79,Tryz.ntmps79
 go_wp2_with fail
 obtain ⟨W,hW⟩:=jX (w.alloc (.cells #[.int .i64 m,.slice A n c] 24))
 have HX:Hid (Blk W w.heap.size 24 #[.int .i64 m,.slice A n c]):=by subst hW; exact jJ (Blk.new _ _ _)
 have HW:Hid (Below w.heap.size w W):=by subst hW; exact jJ ((Below.refl _ _).alloc (Nat.le_refl _) _)
 have hws:w.heap.size < W.heap.size:=HX.out.lt
 have hWs:W.heap.size=w.heap.size + 1:=by subst hW; simp
 rw [← hWs,← hW]
 clear hW hWs hmk
 have HR0:Hid (RowsAt (W.alloc (.cells (Array.replicate m (.slice none 0 0)) 30)) W.heap.size W.heap.size m (atL T 0) (Array.replicate m (.slice none 0 0)) (fun _=>none)) :=
  jJ ⟨Blk.new _ _ _,by simp,fun v hv=>by simp [hv],HadAt.start _ _ _⟩
 have HB0:Hid (Below W.heap.size W (W.alloc (.cells (Array.replicate m (.slice none 0 0)) 30))):=jJ ((Below.refl _ _).alloc (Nat.le_refl _) _)
 have HWE:Hid (∃ b,b=W.heap.size):=jJ ⟨_,rfl⟩
 go_loopw [17] (fun iv wr=>∃ k:Nat,k ≤ n ∧ iv=.int .i64 k ∧ ∃ cells fe,Hid (RowsAt wr W.heap.size W.heap.size m (atL T k) cells fe) ∧ Hid (Below W.heap.size W wr)) (fun iv _=>n - (intOf iv).toNat)
 case atStart=>exact ⟨0,by omega,rfl,_,_,HR0,HB0⟩
 obtain ⟨k,hk,rfl,cells,fe,HR,HB⟩:=hrel
 clear HR0 HB0
 have hwz:=HB.out.size
 by_cases hlt:k < n
 · obtain ⟨ad,t,rfl,htk,htm,hadb,hc3⟩:=((HT.out.below HW.out).below (HB.out.mono (Nat.le_of_lt hws))).at_ hlt
   obtain ⟨d0,d1,d2,d3,d4,d5⟩:=hc3
   have HEK:=jJ (atL_succ htk (HOK.out t htm))
   have htok:=HOK.out t htm
   have HVR:Hid (∀ x ∈ verts t,0 ≤ x ∧ x < (m:Int)):=by
    refine jJ fun x hx=>?_
    obtain ⟨a0,a1,b0,b1,c0,c1,_,_,_⟩:=htok
    simp [verts] at hx
    rcases hx with rfl | rfl | rfl <;> omega
   have HAL:Hid (∀ y,(atL T k y).length ≤ 1000):=jJ fun y=>Nat.le_trans (atL_len T k y) (by omega)
   obtain ⟨ta,tb,tc⟩:=t
   have HVA:=jJ (fun j hj=>verts_at ⟨ta,tb,tc⟩ (j:=j) hj)
   generalize hvs:verts ⟨ta,tb,tc⟩=vs at *
   have hvl:vs.length=3:=by rw [← hvs]; rfl
   simp only at d0 d1 d2 d3 d4 d5
   have HVL:=jJ hvl
   generalize atL T k=Ek at *
   clear htk htm hvs hvl htok
   go_wp2_with fail
   have HRA:=jJ (HR.out.below ((Below.refl _ wr).alloc (Nat.le_refl _) (.cells #[.int .i64 ta,.int .i64 tb,.int .i64 tc] 65)))
   have HBA:=jJ (HB.out.alloc HB.out.size (.cells #[.int .i64 ta,.int .i64 tb,.int .i64 tc] 65))
   clear HR HB d0 d1 d2 d3 d4 d5
   obtain ⟨wB,rfl⟩:=jX (wr:World)
   go_loopw [23] (fun jv wq=>∃ j:Nat,j ≤ 3 ∧ jv=.int .i64 j ∧ ∃ cells fe,Hid (RowsAt wq W.heap.size W.heap.size m ((vs.take j).foldl (addE (-1) k) Ek) cells fe) ∧ Hid (Below W.heap.size W wq)) (fun jv _=>3 - (intOf jv).toNat)
   case atStart=>exact ⟨0,by omega,rfl,_,_,HRA,HBA⟩
   obtain ⟨j,hj,rfl,cells2,fe2,HR2,HB2⟩:=hrel
   clear HRA HBA
   have hwz2:=HB2.out.size
   by_cases hjt:j < 3
   · obtain ⟨x,hx,hix⟩:=HVA.out j hjt
     have HES:Hid ((vs.take (j + 1)).foldl (addE (-1) k) Ek=addE (-1) k ((vs.take j).foldl (addE (-1) k) Ek) x):=jJ (foldl_snoc_take _ _ _ _ hx)
     obtain ⟨hx0,hx1⟩:=HVR.out x (List.mem_of_getElem? hx)
     have hEl:∀ y,((vs.take j).foldl (addE (-1) k) Ek y).length ≤ 2000:=fun y=>by
      have h1:=fold_len (i:=k) (-1) (vs.take j) Ek y
      have h2:=HAL.out y
      have h3:(vs.take j).length ≤ 3:=by rw [List.length_take,HVL.out]; omega
      omega
     generalize (vs.take j).foldl (addE (-1) k) Ek=Ej at *
     clear hx
     obtain ⟨xn,rfl⟩:=Int.eq_ofNat_of_zero_le hx0
     have hxm:xn < m:=by omega
     have hel:=hEl (xn:Int)
     obtain ⟨Ak,ck,hcell,hfe,hrow⟩:=HR2.out.row hxm
     have HFE:=jJ hfe
     have HROW:=jJ hrow
     have hgl:=HR2.out.blk.lt
     clear hfe hrow hEl
     go_wp2_with (at_builtin; go_must (refine wpList_append_sl _ rfl (.tmp 31) (.tmp 33) _ rfl W.heap.size 3 i1 _ 1 8 Tryz.underlying30 hi1 hy0 hy1 hy2 rfl (by omega) (.slice Ak (Ej (xn:Int)).length ck) _ _ rfl (HROW.out.alloc _) (wr.heap.size + 1) (some ⟨wr.heap.size,0,none⟩) 1 1 [.int .i64 (k:Int)] rfl (reads_newN _ _ _ 1 1 rfl rfl) (by simp [Value.oneCell']) (by simp only [maxLen]; omega) (by omega) (by simp; omega) ?_); intro A1 c1 w1 hown1 hg1 hat1; obtain ⟨hce,hfr,cells5,fe5,hr5⟩:=HR2.out.app hxm k HFE.out ((Below.refl _ _).alloc (Nat.le_refl _) _) hown1 hg1 hat1; have HR5:=jJ hr5; have HG5:=jJ hg1; clear hr5 hown1 hg1 hat1)
     refine ⟨⟨j + 1,by omega,by go_num,cells5,fe5,?_,?_⟩,by simp [intOf]; omega⟩
     · rw [HES.out]
       have e:addE (-1) k Ej (xn:Int)=fun y=>if y=(xn:Int) then Ej (xn:Int) ++ [k] else Ej y:=by unfold addE; rw [if_neg (by omega)]
       rw [e]
       exact HR5
     refine jJ ?_
     exact ((HB2.out.alloc HB2.out.size _).grown HG5.out (by simp; omega) fun i hi=>(HROW.out.lt i hi).1).setCell (Nat.le_refl _) _
   obtain rfl:j=3:=by omega
   go_wp2_with fail
   refine ⟨⟨k + 1,by omega,by go_num,cells2,fe2,?_,HB2⟩,by simp [intOf]; omega⟩
   have:=HR2.out
   rw [List.take_of_length_le (by rw [HVL.out]; exact Nat.le_refl _),← HEK.out] at this
   exact jJ this
 obtain rfl:k=n:=by omega
 obtain ⟨V,rfl⟩:=jX (wr:World)
 have HVB:Hid (Below w.heap.size w V):=jJ (HW.out.trans (HB.out.mono (Nat.le_of_lt hws)))
 have hwV:w.heap.size < V.heap.size:=by omega
 have HXV:=jJ (HX.out.below HB.out hws)
 clear hlt hk
 go_wp2_with fail
 go_loopw [8,40] (fun lv iv wr=>∃ v:Nat,v ≤ m ∧ iv=.int .i64 v ∧ WitRel V wr (picks 6 (fun v=>!connB T (v:Int) (atL T k (v:Int))) v) lv) (fun _ iv _=>m - (intOf iv).toNat)
 case atStart=>exact ⟨0,by omega,rfl,WitRel.start0 _⟩
 obtain ⟨v,hv,rfl,A',c',rfl,HO,HBW⟩:=hrel
 by_cases hlt:v < m
 · have hr3:=HR.out.below HBW.out
   obtain ⟨Ak,ck,hcell,_,hrow⟩:=hr3.row hlt
   have b0:=(HXV.out.below HBW.out hwV).cell 0
   have b1:=(HXV.out.below HBW.out hwV).cell 1
   simp at b0 b1
   have HP:=jJ (picks_succ 6 (fun v=>!connB T (v:Int) (atL T k (v:Int))) v)
   have hpl:=picks_len 6 (fun v=>!connB T (v:Int) (atL T k (v:Int))) v
   have hsz:=HBW.out.size
   have HROW:=jJ hrow
   have hbe:=HVB.out.trans (HBW.out.mono HVB.out.size)
   have HTG:=jJ (together_any m (v:Int) A Ak k c ck T (atL T k (v:Int)) wr hm hn ((HT.out.below hbe).more hbe.size) HOK.out (Reads.of_own hrow) (atL_nodup _ _ _) atL_lt (HUSE.out v hlt))
   clear hr3 hrow hbe
   go_wp2_with fail
   refine HTG.out.mono ?_
   rintro e w2 ⟨rfl,hb2⟩
   have hsz2:=hb2.size
   have HB2:=jJ hb2
   have HO2:Hid (WitRow w2 V.heap.size A' c' (picks 6 (fun v=>!connB T (v:Int) (atL T k (v:Int))) v)):=jJ (own_same HO.out fun i hi=>hb2.block i (HO.out.lt i hi).2)
   have HBW2:=jJ (HBW.out.trans (hb2.mono HBW.out.size))
   clear hb2 HTG
   cases hcb:connB T (v:Int) (atL T k (v:Int)) with
   | true =>
    have HCB:=jJ hcb
    clear hcb
    go_wp2_with fail
    refine ⟨⟨v + 1,by omega,by go_num,?_⟩,by simp [intOf]; omega⟩
    rw [HP.out,if_neg (by rw [HCB.out]; decide)]
    exact ⟨A',c',rfl,HO2,HBW2⟩
   | false =>
    have HCB:=jJ hcb
    clear hcb
    go_wp2_with (at_builtin; go_must (refine wpList_append_sl _ rfl (.tmp 50) (.tmp 53) _ rfl V.heap.size 39 i0 _ 3 24 Tryz.underlying107 hi0 hz0 hz1 hz2 rfl (by omega) (.slice A' (picks 6 (fun v=>!connB T (v:Int) (atL T k (v:Int))) v).length c') _ _ rfl (HO2.out.alloc _) (w2.heap.size + 1) (some ⟨w2.heap.size,0,none⟩) 1 1 (w3 (6,(v:Int),0)) rfl (reads_newN _ _ _ 1 3 rfl rfl) (by simp [w3,Value.oneCell']) (by simp only [maxLen]; omega) (by omega) (by simp; omega) ?_); intro A1 c1 w1 hown1 hg1 hat1)
    refine ⟨⟨v + 1,by omega,by go_num,?_⟩,by simp [intOf]; omega⟩
    rw [HP.out,if_pos (by rw [HCB.out]; decide)]
    exact WitRel.grow HO2 HBW2 ((Below.refl _ _).alloc (Nat.le_refl _) _) hown1 hg1
 obtain rfl:v=m:=by omega
 go_wp2_with fail
 go_ret
 exact ⟨A',c',rfl,own_mono HO.out HVB.out.size,HVB.out.trans (HBW.out.mono HVB.out.size)⟩
end
section
def picksD (p:Nat → Bool) (k:Nat):List (Int × Int):=((List.range k).filter p).map fun i:Nat=>((i:Int),0)
theorem picks_wit (kind:Int) (p:Nat → Bool) (k:Nat):picks kind p k=(picksD p k).map (wit kind):=by
 unfold picks picksD
 rw [List.map_map]
 rfl
def outD (L:List (Nat × Nat)):List (Int × Int):=L.map fun p=>((p.1:Int),(p.2:Int))
theorem outW_wit (kind:Int) (L:List (Nat × Nat)):outW kind L=(outD L).map (wit kind):=by
 unfold outW outD
 rw [List.map_map]
 rfl
def indexD (N:Int) (n:Nat) (T:List Tri):List (Int × Int):=if sizeB N n then [(-1,0)] else picksD (indexB N T) n
theorem indexL_wit (N:Int) (n:Nat) (T:List Tri):indexL N n T=(indexD N n T).map (wit 1):=by
 unfold indexL indexD
 split
 · rfl
 exact picks_wit _ _ _
def firstK:List (Int × List (Int × Int)) → List (Int × Int × Int)
 | []=>[]
 | x :: l=>if x.2=[] then firstK l else (sortP x.2).map (wit x.1)
noncomputable def allK (N:Int) (n m:Nat) (T:List Tri):List (Int × List (Int × Int)) :=
 [(1,indexD N n T),
  (2,picksD (loopB T) n),
  (3,outD (PS.to keys2 T n).out),
  (4,outD (PS.to keys3 T n).out),
  (5,picksD (fun v=>!usedTo T n v) m),
  (6,picksD (fun v=>!connB T (v:Int) (atL T n (v:Int))) m)]
noncomputable def allL (N:Int) (T:List Tri):List (Int × Int × Int):=firstK (allK N T.length N.toNat T)
theorem firstK_yes {k:Int} {D:List (Int × Int)} {l:List (Int × List (Int × Int))} (h:D ≠ []):firstK ((k,D) :: l)=(sortP D).map (wit k):=by
 show (if D=[] then _ else _)=_
 rw [if_neg h]
theorem firstK_no {k:Int} {D:List (Int × Int)} {l:List (Int × List (Int × Int))} (h:D=[]):firstK ((k,D) :: l)=firstK l:=by
 show (if D=[] then _ else _)=_
 rw [if_pos h]
theorem sortP_len (d:List (Int × Int)):(sortP d).length=d.length:=by unfold sortP; exact List.length_mergeSort _
theorem picksD_len (p:Nat → Bool) (k:Nat):(picksD p k).length ≤ k:=by
 unfold picksD
 rw [List.length_map]
 exact Nat.le_trans (List.length_filter_le _ _) (by simp)
theorem indexD_len (N:Int) (n:Nat) (T:List Tri):(indexD N n T).length ≤ n + 1:=by
 unfold indexD
 split
 · simp
 exact Nat.le_succ_of_le (picksD_len _ _)
theorem outD_len {keys:Tri → List K3} (hk:∀ t,(keys t).length ≤ 3) (T:List Tri) {n:Nat} (hn:n ≤ 1000):(outD (PS.to keys T n).out).length ≤ 1000000:=by
 unfold outD
 rw [List.length_map]
 have h1:=outOk_len (to_ok keys hk T (n:=n) n (Nat.le_refl _)).out
 have h2:n * n ≤ 1000 * 1000:=Nat.mul_le_mul hn hn
 omega
theorem indexD_nil {N:Int} {n:Nat} {T:List Tri} (hT:T.length=n) (h:indexD N n T=[]):0 ≤ N ∧ N ≤ 4096 ∧ ∀ t ∈ T,(0 ≤ t.a ∧ t.a < N) ∧ (0 ≤ t.b ∧ t.b < N) ∧ (0 ≤ t.c ∧ t.c < N):=by
 unfold indexD at h
 split at h
 · cases h
 rename_i hs
 have hs2:¬ (N < 0 ∨ 4096 < N):=by
  intro h'
  apply hs
  unfold sizeB
  simp only [Bool.or_eq_true,decide_eq_true_eq]
  exact .inl h'
 refine ⟨by omega,by omega,fun t ht=>?_⟩
 obtain ⟨i,hi,e⟩:=List.getElem_of_mem ht
 have hb:indexB N T i=false:=by
  cases hb:indexB N T i with
  | false=>rfl
  | true =>
   have:((i:Int),(0:Int)) ∈ picksD (indexB N T) n:=by
    unfold picksD
    exact List.mem_map.2 ⟨i,List.mem_filter.2 ⟨List.mem_range.2 (by omega),hb⟩,rfl⟩
   rw [h] at this
   cases this
 unfold indexB at hb
 rw [List.getElem?_eq_getElem hi,e] at hb
 simp only [Bool.or_eq_false_iff] at hb
 exact ⟨badV_no (by rw [hb.1.1]; decide),badV_no (by rw [hb.1.2]; decide),badV_no (by rw [hb.2]; decide)⟩
theorem loopD_nil {n:Nat} {T:List Tri} (hT:T.length=n) (h:picksD (loopB T) n=[]):∀ t ∈ T,t.a ≠ t.b ∧ t.b ≠ t.c ∧ t.c ≠ t.a:=by
 intro t ht
 obtain ⟨i,hi,e⟩:=List.getElem_of_mem ht
 have hb:loopB T i=false:=by
  cases hb:loopB T i with
  | false=>rfl
  | true =>
   have:((i:Int),(0:Int)) ∈ picksD (loopB T) n:=by
    unfold picksD
    exact List.mem_map.2 ⟨i,List.mem_filter.2 ⟨List.mem_range.2 (by omega),hb⟩,rfl⟩
   rw [h] at this
   cases this
 unfold loopB at hb
 rw [List.getElem?_eq_getElem hi,e] at hb
 simp only [Bool.or_eq_false_iff,beq_eq_false_iff_ne] at hb
 exact ⟨hb.1.1,hb.1.2,hb.2⟩
theorem lonelyD_nil {n m:Nat} {T:List Tri} (hT:T.length=n) (h:picksD (fun v=>!usedTo T n v) m=[]):∀ v,v < m → atL T n (v:Int) ≠ []:=by
 intro v hv e
 have hb:usedTo T n v=true:=by
  cases hb:usedTo T n v with
  | true=>rfl
  | false =>
   have:((v:Int),(0:Int)) ∈ picksD (fun v=>!usedTo T n v) m:=by
    unfold picksD
    exact List.mem_map.2 ⟨v,List.mem_filter.2 ⟨List.mem_range.2 hv,by rw [hb]; rfl⟩,rfl⟩
   rw [h] at this
   cases this
 unfold usedTo at hb
 rw [List.any_eq_true] at hb
 obtain ⟨t,ht,hv2⟩:=hb
 have ht:=List.mem_of_mem_take ht
 obtain ⟨i,hi,et⟩:=List.getElem_of_mem ht
 have:i ∈ atL T n (v:Int):=by
  unfold atL
  refine List.mem_filter.2 ⟨List.mem_range.2 (by omega),decide_eq_true ?_⟩
  rw [tri_of (List.getElem?_eq_getElem hi),et]
  unfold hasV at hv2
  simp only [Bool.or_eq_true,beq_iff_eq] at hv2
  simp only [verts,List.mem_cons,List.not_mem_nil,or_false]
  rcases hv2 with (h | h) | h
  · exact .inl h.symm
  · exact .inr (.inl h.symm)
  exact .inr (.inr h.symm)
 rw [e] at this
 cases this
def funs:Array Value:=#[.func (.func 74) #[] #[],.func (.func 75) #[] #[],.func (.func 76) #[] #[],.func (.func 77) #[] #[],.func (.func 78) #[] #[],.func (.func 79) #[] #[]] 
structure AllMid (w V:World) (N:Int) (A:Option Addr) (n c:Nat) (T:List Tri):Prop where
 below:Below w.heap.size w V
 box:Blk V w.heap.size 24 #[.int .i64 N,.slice A n c]
 funs:Blk V (w.heap.size + 1) 108 funs
 tris:TrisAt V V.heap.size A n T
theorem AllMid.next {w V V':World} {N:Int} {A:Option Addr} {n c:Nat} {T:List Tri} (h:AllMid w V N A n c T) (hb:Below V.heap.size V V'):AllMid w V' N A n c T :=
 ⟨h.below.trans (hb.mono h.below.size),h.box.below hb h.box.lt,h.funs.below hb h.funs.lt,(h.tris.below hb).more hb.size⟩
theorem all_any (N:Int) (A:Option Addr) (n c:Nat) (T:List Tri) (w:World) (hn:n ≤ 1000) (ht:TrisAt w w.heap.size A n T) :
  Calls Tryz.prog 47 #[.agg #[.int .i64 N,.slice A n c]] w (WitPost w (allL N T)):=by
 have HLT:=jJ ht.len
 have HALL:Hid (allL N T=firstK (allK N n N.toNat T)):=jJ (by unfold allL; rw [HLT.out])
 have HT:=jJ ht
 clear ht
 go_enter Tryz.func47,Tryz.ntmps47
 go_wp2_with fail
 obtain ⟨V,hV⟩:=jX ((w.alloc (.cells #[.int .i64 N,.slice A n c] 24)).alloc (.cells funs 108))
 have HM0:Hid (AllMid w V N A n c T):=by
  subst hV
  have hb:Below w.heap.size w ((w.alloc (.cells #[.int .i64 N,.slice A n c] 24)).alloc (.cells funs 108)):=((Below.refl _ _).alloc (Nat.le_refl _) _).alloc (by simp) _
  exact jJ ⟨hb,(Blk.new _ _ _).alloc _,Blk.new_ (by simp) _ _,(HT.out.below hb).more hb.size⟩
 have hV':=hV
 unfold funs at hV'
 rw [← hV']
 clear hV hV' HT
 refine wp_loop_rounds 7 ?_
 obtain ⟨V0,rfl⟩:=jX (V:World)
 have HALL2:Hid (allL N T=firstK [(1,indexD N n T),(2,picksD (loopB T) n),(3,outD (PS.to keys2 T n).out),(4,outD (PS.to keys3 T n).out),(5,picksD (fun v=>!usedTo T n v) N.toNat),(6,picksD (fun v=>!connB T (v:Int) (atL T n (v:Int))) N.toNat)]):=jJ HALL.out
 clear HALL
 have HALL:=HALL2
 clear HALL2
 rw [rounds_succ]
 have c0:=HM0.out.box.cell 0
 have c1:=HM0.out.box.cell 1
 have f0:=HM0.out.funs.cell 0
 simp [funs] at c0 c1 f0
 have HCON:Hid (Calls Tryz.prog 74 #[.agg #[.int .i64 N,.slice A n c]] V0 (WitPost V0 ((indexD N n T).map (wit 1)))):=by
  have TR:=HM0.out.tris
  have:=index_any N A n c T V0 (by omega) TR
  rw [indexL_wit] at this
  exact jJ this
 have HLEN:Hid ((indexD N n T).length ≤ 100000000):=jJ (Nat.le_trans (indexD_len N n T) (by omega))
 generalize hDD:indexD N n T=D0 at *
 go_wp2_with fail
 refine HCON.out.mono ?_
 rintro e V1 ⟨A1,c1',rfl,hr,hb⟩
 have HM1:=jJ (HM0.out.next (hb.mono (Nat.le_refl _)))
 have HR:=jJ hr
 have hL:(D0.map (wit 1)).length=D0.length:=List.length_map _
 rw [hL]
 have hVw:=HM0.out.below.size
 have HBZ:=jJ hb.size
 clear hr hb HCON c0 c1 f0 hL
 by_cases hD:D0=[]
 case neg =>
  have hlen:0 < D0.length:=List.length_pos_iff.2 hD
  have HF:Hid (allL N T=(sortP D0).map (wit 1)):=jJ (by rw [HALL.out]; exact firstK_yes hD)
  have HS:=jJ (sortW_any 1 D0 A1 c1' V0.heap.size V1 HR.out hD HLEN.out HBZ.out)
  have hLL:((sortP D0).map (wit 1)).length=D0.length:=by rw [List.length_map,sortP_len]
  have HLL:=jJ hLL
  clear hD hLL
  go_wp2_with fail
  refine HS.out.mono ?_
  rintro e w2 ⟨rfl,hr2,hb2⟩
  have HR2:=jJ hr2
  have HB2:=jJ hb2
  clear hr2 hb2
  go_wp2_with fail
  go_ret
  rw [HF.out]
  refine ⟨A1,c1',?_,own_mono HR2.out hVw,HM1.out.below.trans (HB2.out.mono hVw)⟩
  rw [HLL.out]
  rfl
 have HD0:Hid (indexD N n T=[]):=jJ (hDD.trans hD)
 have HALL0:=HALL
 clear HALL
 have HALL:Hid (allL N T=firstK ([(2,picksD (loopB T) n),(3,outD (PS.to keys2 T n).out),(4,outD (PS.to keys3 T n).out),(5,picksD (fun v=>!usedTo T n v) N.toNat),(6,picksD (fun v=>!connB T (v:Int) (atL T n (v:Int))) N.toNat)])):=jJ (HALL0.out.trans (firstK_no hD))
 subst hD
 clear HALL0 HLEN HBZ HR hVw hDD
 go_wp2_with fail
 obtain ⟨hN0,hN1,hT1⟩:=indexD_nil HLT.out HD0.out
 obtain ⟨m,rfl⟩:=Int.eq_ofNat_of_zero_le hN0
 have hm:m ≤ 4096:=by omega
 have HT1:=jJ hT1
 rw [Int.toNat_natCast] at HALL
 clear hT1 hN0 hN1
 rw [rounds_succ]
 have c0:=HM1.out.box.cell 0
 have c1:=HM1.out.box.cell 1
 have f0:=HM1.out.funs.cell 1
 simp [funs] at c0 c1 f0
 have HCON:Hid (Calls Tryz.prog 75 #[.agg #[.int .i64 (m:Int),.slice A n c]] V1 (WitPost V1 ((picksD (loopB T) n).map (wit 2)))):=by
  have TR:=HM1.out.tris
  have:=loop_any (m:Int) A n c T V1 (by omega) TR
  rw [picks_wit] at this
  exact jJ this
 have HLEN:Hid ((picksD (loopB T) n).length ≤ 100000000):=jJ (Nat.le_trans (picksD_len _ _) (by omega))
 generalize hDD:picksD (loopB T) n=D1 at *
 go_wp2_with fail
 refine HCON.out.mono ?_
 rintro e V2 ⟨A1,c1',rfl,hr,hb⟩
 have HM2:=jJ (HM1.out.next (hb.mono (Nat.le_refl _)))
 have HR:=jJ hr
 have hL:(D1.map (wit 2)).length=D1.length:=List.length_map _
 rw [hL]
 have hVw:=HM1.out.below.size
 have HBZ:=jJ hb.size
 clear hr hb HCON c0 c1 f0 hL
 by_cases hD:D1=[]
 case neg =>
  have hlen:0 < D1.length:=List.length_pos_iff.2 hD
  have HF:Hid (allL (m:Int) T=(sortP D1).map (wit 2)):=jJ (by rw [HALL.out]; exact firstK_yes hD)
  have HS:=jJ (sortW_any 2 D1 A1 c1' V1.heap.size V2 HR.out hD HLEN.out HBZ.out)
  have hLL:((sortP D1).map (wit 2)).length=D1.length:=by rw [List.length_map,sortP_len]
  have HLL:=jJ hLL
  clear hD hLL
  go_wp2_with fail
  refine HS.out.mono ?_
  rintro e w2 ⟨rfl,hr2,hb2⟩
  have HR2:=jJ hr2
  have HB2:=jJ hb2
  clear hr2 hb2
  go_wp2_with fail
  go_ret
  rw [HF.out]
  refine ⟨A1,c1',?_,own_mono HR2.out hVw,HM2.out.below.trans (HB2.out.mono hVw)⟩
  rw [HLL.out]
  rfl
 have HD1:Hid (picksD (loopB T) n=[]):=jJ (hDD.trans hD)
 have HALL1:=HALL
 clear HALL
 have HALL:Hid (allL (m:Int) T=firstK ([(3,outD (PS.to keys2 T n).out),(4,outD (PS.to keys3 T n).out),(5,picksD (fun v=>!usedTo T n v) m),(6,picksD (fun v=>!connB T (v:Int) (atL T n (v:Int))) m)])):=jJ (HALL1.out.trans (firstK_no hD))
 subst hD
 clear HALL1 HLEN HBZ HR hVw hDD
 go_wp2_with fail
 have HOK:Hid (∀ t ∈ T,TriOk m t):=by
  refine jJ fun t ht=>?_
  obtain ⟨⟨a0,a1⟩,⟨b0,b1⟩,c0,c1⟩:=HT1.out t ht
  obtain ⟨h1,h2,h3⟩:=loopD_nil HLT.out HD1.out t ht
  exact ⟨a0,a1,b0,b1,c0,c1,h1,h2,h3⟩
 rw [rounds_succ]
 have c0:=HM2.out.box.cell 0
 have c1:=HM2.out.box.cell 1
 have f0:=HM2.out.funs.cell 2
 simp [funs] at c0 c1 f0
 have HCON:Hid (Calls Tryz.prog 76 #[.agg #[.int .i64 (m:Int),.slice A n c]] V2 (WitPost V2 ((outD (PS.to keys2 T n).out).map (wit 3)))):=by
  have TR:=HM2.out.tris
  have:=twice_any m A n c T V2 hm hn TR HOK.out
  rw [outW_wit] at this
  exact jJ this
 have HLEN:Hid ((outD (PS.to keys2 T n).out).length ≤ 100000000):=jJ (Nat.le_trans (outD_len (fun _=>Nat.le_refl _) T hn) (by omega))
 generalize hDD:outD (PS.to keys2 T n).out=D2 at *
 go_wp2_with fail
 refine HCON.out.mono ?_
 rintro e V3 ⟨A1,c1',rfl,hr,hb⟩
 have HM3:=jJ (HM2.out.next (hb.mono (Nat.le_refl _)))
 have HR:=jJ hr
 have hL:(D2.map (wit 3)).length=D2.length:=List.length_map _
 rw [hL]
 have hVw:=HM2.out.below.size
 have HBZ:=jJ hb.size
 clear hr hb HCON c0 c1 f0 hL
 by_cases hD:D2=[]
 case neg =>
  have hlen:0 < D2.length:=List.length_pos_iff.2 hD
  have HF:Hid (allL (m:Int) T=(sortP D2).map (wit 3)):=jJ (by rw [HALL.out]; exact firstK_yes hD)
  have HS:=jJ (sortW_any 3 D2 A1 c1' V2.heap.size V3 HR.out hD HLEN.out HBZ.out)
  have hLL:((sortP D2).map (wit 3)).length=D2.length:=by rw [List.length_map,sortP_len]
  have HLL:=jJ hLL
  clear hD hLL
  go_wp2_with fail
  refine HS.out.mono ?_
  rintro e w2 ⟨rfl,hr2,hb2⟩
  have HR2:=jJ hr2
  have HB2:=jJ hb2
  clear hr2 hb2
  go_wp2_with fail
  go_ret
  rw [HF.out]
  refine ⟨A1,c1',?_,own_mono HR2.out hVw,HM3.out.below.trans (HB2.out.mono hVw)⟩
  rw [HLL.out]
  rfl
 have HD2:Hid (outD (PS.to keys2 T n).out=[]):=jJ (hDD.trans hD)
 have HALL2:=HALL
 clear HALL
 have HALL:Hid (allL (m:Int) T=firstK ([(4,outD (PS.to keys3 T n).out),(5,picksD (fun v=>!usedTo T n v) m),(6,picksD (fun v=>!connB T (v:Int) (atL T n (v:Int))) m)])):=jJ (HALL2.out.trans (firstK_no hD))
 subst hD
 clear HALL2 HLEN HBZ HR hVw hDD
 go_wp2_with fail
 rw [rounds_succ]
 have c0:=HM3.out.box.cell 0
 have c1:=HM3.out.box.cell 1
 have f0:=HM3.out.funs.cell 3
 simp [funs] at c0 c1 f0
 have HCON:Hid (Calls Tryz.prog 77 #[.agg #[.int .i64 (m:Int),.slice A n c]] V3 (WitPost V3 ((outD (PS.to keys3 T n).out).map (wit 4)))):=by
  have TR:=HM3.out.tris
  have:=mirrored_any m A n c T V3 hm hn TR HOK.out
  rw [outW_wit] at this
  exact jJ this
 have HLEN:Hid ((outD (PS.to keys3 T n).out).length ≤ 100000000):=jJ (Nat.le_trans (outD_len (fun t=>by simp [keys3]) T hn) (by omega))
 generalize hDD:outD (PS.to keys3 T n).out=D3 at *
 go_wp2_with fail
 refine HCON.out.mono ?_
 rintro e V4 ⟨A1,c1',rfl,hr,hb⟩
 have HM4:=jJ (HM3.out.next (hb.mono (Nat.le_refl _)))
 have HR:=jJ hr
 have hL:(D3.map (wit 4)).length=D3.length:=List.length_map _
 rw [hL]
 have hVw:=HM3.out.below.size
 have HBZ:=jJ hb.size
 clear hr hb HCON c0 c1 f0 hL
 by_cases hD:D3=[]
 case neg =>
  have hlen:0 < D3.length:=List.length_pos_iff.2 hD
  have HF:Hid (allL (m:Int) T=(sortP D3).map (wit 4)):=jJ (by rw [HALL.out]; exact firstK_yes hD)
  have HS:=jJ (sortW_any 4 D3 A1 c1' V3.heap.size V4 HR.out hD HLEN.out HBZ.out)
  have hLL:((sortP D3).map (wit 4)).length=D3.length:=by rw [List.length_map,sortP_len]
  have HLL:=jJ hLL
  clear hD hLL
  go_wp2_with fail
  refine HS.out.mono ?_
  rintro e w2 ⟨rfl,hr2,hb2⟩
  have HR2:=jJ hr2
  have HB2:=jJ hb2
  clear hr2 hb2
  go_wp2_with fail
  go_ret
  rw [HF.out]
  refine ⟨A1,c1',?_,own_mono HR2.out hVw,HM4.out.below.trans (HB2.out.mono hVw)⟩
  rw [HLL.out]
  rfl
 have HD3:Hid (outD (PS.to keys3 T n).out=[]):=jJ (hDD.trans hD)
 have HALL3:=HALL
 clear HALL
 have HALL:Hid (allL (m:Int) T=firstK ([(5,picksD (fun v=>!usedTo T n v) m),(6,picksD (fun v=>!connB T (v:Int) (atL T n (v:Int))) m)])):=jJ (HALL3.out.trans (firstK_no hD))
 subst hD
 clear HALL3 HLEN HBZ HR hVw hDD
 go_wp2_with fail
 rw [rounds_succ]
 have c0:=HM4.out.box.cell 0
 have c1:=HM4.out.box.cell 1
 have f0:=HM4.out.funs.cell 4
 simp [funs] at c0 c1 f0
 have HCON:Hid (Calls Tryz.prog 78 #[.agg #[.int .i64 (m:Int),.slice A n c]] V4 (WitPost V4 ((picksD (fun v=>!usedTo T n v) m).map (wit 5)))):=by
  have TR:=HM4.out.tris
  have:=lonely_any m A n c T V4 hm (by omega) TR HOK.out
  rw [picks_wit] at this
  exact jJ this
 have HLEN:Hid ((picksD (fun v=>!usedTo T n v) m).length ≤ 100000000):=jJ (Nat.le_trans (picksD_len _ _) (by omega))
 generalize hDD:picksD (fun v=>!usedTo T n v) m=D4 at *
 go_wp2_with fail
 refine HCON.out.mono ?_
 rintro e V5 ⟨A1,c1',rfl,hr,hb⟩
 have HM5:=jJ (HM4.out.next (hb.mono (Nat.le_refl _)))
 have HR:=jJ hr
 have hL:(D4.map (wit 5)).length=D4.length:=List.length_map _
 rw [hL]
 have hVw:=HM4.out.below.size
 have HBZ:=jJ hb.size
 clear hr hb HCON c0 c1 f0 hL
 by_cases hD:D4=[]
 case neg =>
  have hlen:0 < D4.length:=List.length_pos_iff.2 hD
  have HF:Hid (allL (m:Int) T=(sortP D4).map (wit 5)):=jJ (by rw [HALL.out]; exact firstK_yes hD)
  have HS:=jJ (sortW_any 5 D4 A1 c1' V4.heap.size V5 HR.out hD HLEN.out HBZ.out)
  have hLL:((sortP D4).map (wit 5)).length=D4.length:=by rw [List.length_map,sortP_len]
  have HLL:=jJ hLL
  clear hD hLL
  go_wp2_with fail
  refine HS.out.mono ?_
  rintro e w2 ⟨rfl,hr2,hb2⟩
  have HR2:=jJ hr2
  have HB2:=jJ hb2
  clear hr2 hb2
  go_wp2_with fail
  go_ret
  rw [HF.out]
  refine ⟨A1,c1',?_,own_mono HR2.out hVw,HM5.out.below.trans (HB2.out.mono hVw)⟩
  rw [HLL.out]
  rfl
 have HD4:Hid (picksD (fun v=>!usedTo T n v) m=[]):=jJ (hDD.trans hD)
 have HALL4:=HALL
 clear HALL
 have HALL:Hid (allL (m:Int) T=firstK ([(6,picksD (fun v=>!connB T (v:Int) (atL T n (v:Int))) m)])):=jJ (HALL4.out.trans (firstK_no hD))
 subst hD
 clear HALL4 HLEN HBZ HR hVw hDD
 go_wp2_with fail
 have HUSE:=jJ (lonelyD_nil HLT.out HD4.out)
 rw [rounds_succ]
 have c0:=HM5.out.box.cell 0
 have c1:=HM5.out.box.cell 1
 have f0:=HM5.out.funs.cell 5
 simp [funs] at c0 c1 f0
 have HCON:Hid (Calls Tryz.prog 79 #[.agg #[.int .i64 (m:Int),.slice A n c]] V5 (WitPost V5 ((picksD (fun v=>!connB T (v:Int) (atL T n (v:Int))) m).map (wit 6)))):=by
  have TR:=HM5.out.tris
  have:=pinch_any m A n c T V5 hm hn TR HOK.out HUSE.out
  rw [picks_wit] at this
  exact jJ this
 have HLEN:Hid ((picksD (fun v=>!connB T (v:Int) (atL T n (v:Int))) m).length ≤ 100000000):=jJ (Nat.le_trans (picksD_len _ _) (by omega))
 generalize hDD:picksD (fun v=>!connB T (v:Int) (atL T n (v:Int))) m=D5 at *
 go_wp2_with fail
 refine HCON.out.mono ?_
 rintro e V6 ⟨A1,c1',rfl,hr,hb⟩
 have HM6:=jJ (HM5.out.next (hb.mono (Nat.le_refl _)))
 have HR:=jJ hr
 have hL:(D5.map (wit 6)).length=D5.length:=List.length_map _
 rw [hL]
 have hVw:=HM5.out.below.size
 have HBZ:=jJ hb.size
 clear hr hb HCON c0 c1 f0 hL
 by_cases hD:D5=[]
 case neg =>
  have hlen:0 < D5.length:=List.length_pos_iff.2 hD
  have HF:Hid (allL (m:Int) T=(sortP D5).map (wit 6)):=jJ (by rw [HALL.out]; exact firstK_yes hD)
  have HS:=jJ (sortW_any 6 D5 A1 c1' V5.heap.size V6 HR.out hD HLEN.out HBZ.out)
  have hLL:((sortP D5).map (wit 6)).length=D5.length:=by rw [List.length_map,sortP_len]
  have HLL:=jJ hLL
  clear hD hLL
  go_wp2_with fail
  refine HS.out.mono ?_
  rintro e w2 ⟨rfl,hr2,hb2⟩
  have HR2:=jJ hr2
  have HB2:=jJ hb2
  clear hr2 hb2
  go_wp2_with fail
  go_ret
  rw [HF.out]
  refine ⟨A1,c1',?_,own_mono HR2.out hVw,HM6.out.below.trans (HB2.out.mono hVw)⟩
  rw [HLL.out]
  rfl
 have HD5:Hid (picksD (fun v=>!connB T (v:Int) (atL T n (v:Int))) m=[]):=jJ (hDD.trans hD)
 have HALL5:=HALL
 clear HALL
 have HALL:Hid (allL (m:Int) T=firstK ([])):=jJ (HALL5.out.trans (firstK_no hD))
 subst hD
 clear HALL5 HLEN HBZ HR hVw hDD
 go_wp2_with fail
 rw [rounds_succ]
 go_wp2_with fail
 go_ret
 rw [HALL.out]
 exact ⟨none,0,rfl,World.ownsRow_nil _ _ _ _,HM6.out.below⟩
end
section
open Go.RowKit Go.Sort Go.Shelf
theorem sortP_pairwise (d:List (Int × Int)):(sortP d).Pairwise fun x y=>(!(ltOf cfW) y x)=true:=by
 refine List.pairwise_mergeSort (fun a b c h1 h2=>?_) (fun a b=>?_) d
 · simp only [Bool.not_eq_true',ltOf_cfW_no] at *
   unfold ltW at *
   omega
 rw [Bool.or_eq_true]
 simp only [Bool.not_eq_true',ltOf_cfW_no]
 unfold ltW
 omega
theorem ltW_nodup {d:List (Int × Int)} (h:d.Pairwise ltW):d.Nodup:=h.imp fun {a b} h e=>by subst e; unfold ltW at h; omega
theorem sortP_eq {d d':List (Int × Int)} (hd:d.Nodup) (hs:d'.Pairwise ltW) (hm:∀ x,x ∈ d ↔ x ∈ d'):sortP d=d':=by
 have hp:(sortP d).Perm d':=(List.mergeSort_perm _ _).trans ((List.perm_ext_iff_of_nodup hd (ltW_nodup hs)).2 hm)
 refine List.Perm.eq_of_pairwise (le:=fun x y=>(!(ltOf cfW) y x)=true) (fun a b _ _ h1 h2=>?_) (sortP_pairwise d) (hs.imp fun {a b} h=>?_) hp
 · simp only [Bool.not_eq_true'] at h1 h2
   exact totalW a b h2 h1
 simp only [Bool.not_eq_true',ltOf_cfW_no]
 unfold ltW at *
 omega
theorem sortP_self {d:List (Int × Int)} (hs:d.Pairwise ltW):sortP d=d:=sortP_eq (ltW_nodup hs) hs fun _=>Iff.rfl
theorem picksD_sorted (p:Nat → Bool) (k:Nat):(picksD p k).Pairwise ltW:=by
 unfold picksD
 rw [List.pairwise_map]
 refine (List.pairwise_lt_range.filter _).imp fun {a b} h=>Or.inr ⟨rfl,?_⟩
 show (a:Int) < (b:Int)
 omega
theorem indexD_sorted (N:Int) (n:Nat) (T:List Tri):(indexD N n T).Pairwise ltW:=by
 unfold indexD
 split
 · simp
 exact picksD_sorted _ _
theorem foldP_mem (i:Nat) (p:Nat × Nat):∀ (l:List Nat) (L:List (Nat × Nat)),p ∈ l.foldl (addP i) L ↔ p ∈ L ∨ (p.2=i ∧ p.1 ∈ l)
 | [],L=>by simp
 | a :: l,L=>by
  rw [List.foldl_cons,foldP_mem i p l]
  have h1:p ∈ addP i L a ↔ p ∈ L ∨ p=(a,i):=by
   unfold addP
   split
   · rename_i h
     exact ⟨.inl,fun h'=>by rcases h' with h' | rfl; exact h'; exact h⟩
   simp
  rw [h1,List.mem_cons]
  obtain ⟨x,y⟩:=p
  simp only [Prod.mk.injEq]
  constructor
  · rintro ((h | ⟨h1,h2⟩) | ⟨h1,h⟩)
    · exact .inl h
    · exact .inr ⟨h2,.inl h1⟩
    exact .inr ⟨h1,.inr h⟩
  rintro (h | ⟨h1,h2 | h⟩)
  · exact .inl (.inl h)
  · exact .inl (.inr ⟨h2,h1⟩)
  exact .inr ⟨h1,h⟩
theorem keysP_mem (i:Nat):∀ (ks:List K3) (s:PS),ks.Nodup → (∀ x a,a ∈ (ks.foldl (PS.key i) s).had x ↔ a ∈ s.had x ∨ (a=i ∧ x ∈ ks)) ∧ ∀ p,p ∈ (ks.foldl (PS.key i) s).out ↔ p ∈ s.out ∨ (p.2=i ∧ ∃ x ∈ ks,p.1 ∈ s.had x)
 | [],s,_=>⟨fun x a=>by simp,fun p=>by simp⟩
 | k :: ks,s,hn=>by
  obtain ⟨hk,hks⟩:=List.nodup_cons.1 hn
  obtain ⟨h1,h2⟩:=keysP_mem i ks (PS.key i s k) hks
  refine ⟨fun x a=>?_,fun p=>?_⟩
  · rw [List.foldl_cons,h1]
    simp only [PS.key,List.mem_cons]
    by_cases hx:x=k
    · subst hx
      simp only [if_true,List.mem_append,List.mem_singleton]
      constructor
      · rintro ((h | h) | ⟨h,_⟩)
        · exact .inl h
        · exact .inr ⟨h,.inl trivial⟩
        exact .inr ⟨h,.inl trivial⟩
      rintro (h | ⟨h,_⟩)
      · exact .inl (.inl h)
      exact .inl (.inr h)
    simp only [if_neg hx]
    simp [hx]
  rw [List.foldl_cons,h2]
  simp only [PS.key]
  rw [foldP_mem]
  constructor
  · rintro ((h | ⟨h3,h4⟩) | ⟨h3,x,hx,h4⟩)
    · exact .inl h
    · exact .inr ⟨h3,k,by simp,h4⟩
    rw [if_neg (fun e=>hk (by rw [← e]; exact hx))] at h4
    exact .inr ⟨h3,x,by simp [hx],h4⟩
  rintro (h | ⟨h3,x,hx,h4⟩)
  · exact .inl (.inl h)
  rcases List.mem_cons.1 hx with rfl | hx
  · exact .inl (.inr ⟨h3,h4⟩)
  exact .inr ⟨h3,x,hx,by rw [if_neg (fun e=>hk (by rw [← e]; exact hx))]; exact h4⟩
theorem toP_mem (keys:Tri → List K3) {T:List Tri} (hn:∀ t ∈ T,(keys t).Nodup):∀ k,k ≤ T.length →
  (∀ x a,a ∈ (PS.to keys T k).had x ↔ a < k ∧ x ∈ keys (tri T a)) ∧ ∀ p,p ∈ (PS.to keys T k).out ↔ p.1 < p.2 ∧ p.2 < k ∧ ∃ x ∈ keys (tri T p.2),x ∈ keys (tri T p.1)
 | 0,_=>⟨fun x a=>by simp [PS.to],fun p=>by simp [PS.to]⟩
 | k + 1,hk=>by
  obtain ⟨h1,h2⟩:=toP_mem keys hn k (by omega)
  have ht:T[k]?=some T[k]:=List.getElem?_eq_getElem (by omega)
  obtain ⟨h3,h4⟩:=keysP_mem k (keys T[k]) (PS.to keys T k) (hn _ (List.getElem_mem _))
  have e:=tri_of ht
  refine ⟨fun x a=>?_,fun p=>?_⟩
  · rw [to_succ keys ht,h3,h1]
    constructor
    · rintro (⟨h,h'⟩ | ⟨rfl,h⟩)
      · exact ⟨by omega,h'⟩
      exact ⟨by omega,by rw [e]; exact h⟩
    rintro ⟨h,h'⟩
    rcases (by omega:a < k ∨ a=k) with h5 | rfl
    · exact .inl ⟨h5,h'⟩
    exact .inr ⟨rfl,by rw [e] at h'; exact h'⟩
  rw [to_succ keys ht,h4,h2]
  constructor
  · rintro (⟨h,h',h''⟩ | ⟨h,x,hx,h'⟩)
    · exact ⟨h,by omega,h''⟩
    rw [h1] at h'
    refine ⟨by omega,by omega,x,?_,h'.2⟩
    rw [h,e]; exact hx
  rintro ⟨h,h',x,hx,hx'⟩
  rcases (by omega:p.2 < k ∨ p.2=k) with h5 | h5
  · exact .inl ⟨h,h5,x,hx,hx'⟩
  rw [h5,e] at hx
  exact .inr ⟨h5,x,hx,by rw [h1]; exact ⟨by omega,hx'⟩⟩
def refD (test:Tri → Tri → Bool) (T:List Tri) (n:Nat):List (Int × Int):=(List.range n).flatMap fun b=>((List.range b).filter fun a=>test (tri T a) (tri T b)).map fun a:Nat=>((a:Int),(b:Int))
theorem refD_mem (test:Tri → Tri → Bool) (T:List Tri) (n:Nat) (x:Int × Int):x ∈ refD test T n ↔ ∃ a b:Nat,x=((a:Int),(b:Int)) ∧ a < b ∧ b < n ∧ test (tri T a) (tri T b)=true:=by
 unfold refD
 simp only [List.mem_flatMap,List.mem_map,List.mem_filter,List.mem_range]
 constructor
 · rintro ⟨b,hb,a,⟨ha,ht⟩,rfl⟩
   exact ⟨a,b,rfl,ha,hb,ht⟩
 rintro ⟨a,b,rfl,ha,hb,ht⟩
 exact ⟨b,hb,a,⟨ha,ht⟩,rfl⟩
theorem refD_sorted (test:Tri → Tri → Bool) (T:List Tri) (n:Nat):(refD test T n).Pairwise ltW:=by
 unfold refD
 rw [List.pairwise_flatMap]
 refine ⟨fun b _=>?_,?_⟩
 · rw [List.pairwise_map]
   refine (List.pairwise_lt_range.filter _).imp fun {a a'} h=>Or.inr ⟨rfl,?_⟩
   show (a:Int) < (a':Int)
   omega
 refine List.pairwise_lt_range.imp fun {b b'} h x hx y hy=>?_
 simp only [List.mem_map] at hx hy
 obtain ⟨_,_,rfl⟩:=hx
 obtain ⟨_,_,rfl⟩:=hy
 left
 show (b:Int) < (b':Int)
 omega
theorem outD_nodup {L:List (Nat × Nat)} (h:L.Nodup):(outD L).Nodup:=by
 unfold outD
 unfold List.Nodup at *
 rw [List.pairwise_map]
 refine h.imp fun {p q} hne e=>hne ?_
 simp only [Prod.mk.injEq] at e
 exact Prod.ext (by omega) (by omega)
theorem pairs_spec (keys:Tri → List K3) (hkl:∀ t,(keys t).length ≤ 3) (test:Tri → Tri → Bool) {T:List Tri} (hn:∀ t ∈ T,(keys t).Nodup) (ht:∀ t ∈ T,∀ u ∈ T,test t u=true ↔ ∃ x ∈ keys u,x ∈ keys t) :
  sortP (outD (PS.to keys T T.length).out)=refD test T T.length:=by
 have hok:=to_ok keys hkl T (n:=T.length) T.length (Nat.le_refl _)
 refine sortP_eq (outD_nodup hok.nodup) (refD_sorted _ _ _) fun x=>?_
 rw [refD_mem]
 unfold outD
 rw [List.mem_map]
 have hmem:=(toP_mem keys hn T.length (Nat.le_refl _)).2
 have hT:∀ a,a < T.length → tri T a ∈ T:=fun a ha=>by
  rw [tri_of (List.getElem?_eq_getElem ha)]
  exact List.getElem_mem ha
 constructor
 · rintro ⟨p,hp,rfl⟩
   obtain ⟨h1,h2,h3⟩:=(hmem p).1 hp
   exact ⟨p.1,p.2,rfl,h1,h2,(ht _ (hT _ (by omega)) _ (hT _ h2)).2 h3⟩
 rintro ⟨a,b,rfl,h1,h2,h3⟩
 exact ⟨(a,b),(hmem _).2 ⟨h1,h2,(ht _ (hT _ (by omega)) _ (hT _ h2)).1 h3⟩,rfl⟩
def edgeB (t:Tri) (a b:Int):Bool:=(t.a == a && t.b == b) || (t.b == a && t.c == b) || (t.c == a && t.a == b)
def twiceB (t u:Tri):Bool:=edgeB u t.a t.b || edgeB u t.b t.c || edgeB u t.c t.a
def hasB (t:Tri) (v:Int):Bool:=t.a == v || t.b == v || t.c == v
def mirrB (t u:Tri):Bool:=hasB u t.a && hasB u t.b && hasB u t.c
theorem edgeB_iff (t:Tri) (a b:Int):edgeB t a b=true ↔ (a,b,(0:Int)) ∈ keys2 t:=by
 unfold edgeB keys2
 simp only [Bool.or_eq_true,Bool.and_eq_true,beq_iff_eq,List.mem_cons,List.not_mem_nil,or_false,Prod.mk.injEq,and_true]
 constructor
 · rintro ((⟨h,h'⟩ | ⟨h,h'⟩) | ⟨h,h'⟩)
   · exact .inl ⟨h.symm,h'.symm⟩
   · exact .inr (.inl ⟨h.symm,h'.symm⟩)
   exact .inr (.inr ⟨h.symm,h'.symm⟩)
 rintro (⟨h,h'⟩ | ⟨h,h'⟩ | ⟨h,h'⟩)
 · exact .inl (.inl ⟨h.symm,h'.symm⟩)
 · exact .inl (.inr ⟨h.symm,h'.symm⟩)
 exact .inr ⟨h.symm,h'.symm⟩
theorem twiceB_iff (t u:Tri):twiceB t u=true ↔ ∃ x ∈ keys2 u,x ∈ keys2 t:=by
 unfold twiceB
 simp only [Bool.or_eq_true,edgeB_iff]
 constructor
 · rintro ((h | h) | h)
   · exact ⟨_,h,by simp [keys2]⟩
   · exact ⟨_,h,by simp [keys2]⟩
   exact ⟨_,h,by simp [keys2]⟩
 rintro ⟨x,hu,ht⟩
 simp only [keys2,List.mem_cons,List.not_mem_nil,or_false] at ht
 rcases ht with rfl | rfl | rfl
 · exact .inl (.inl hu)
 · exact .inl (.inr hu)
 exact .inr hu
theorem keys2_nodup {m:Nat} {t:Tri} (h:TriOk m t):(keys2 t).Nodup:=by
 obtain ⟨_,_,_,_,_,_,h1,h2,h3⟩:=h
 unfold keys2
 simp only [List.nodup_cons,List.mem_cons,List.not_mem_nil,or_false,Prod.mk.injEq,not_or,not_false_eq_true,List.nodup_nil,and_true]
 refine ⟨⟨fun e=>h1 e.1,fun e=>h3 e.1.symm⟩,fun e=>h2 e.1⟩
theorem hasB_iff (t:Tri) (v:Int):hasB t v=true ↔ v ∈ verts t:=by
 unfold hasB verts
 simp only [Bool.or_eq_true,beq_iff_eq,List.mem_cons,List.not_mem_nil,or_false]
 constructor
 · rintro ((h | h) | h)
   · exact .inl h.symm
   · exact .inr (.inl h.symm)
   exact .inr (.inr h.symm)
 rintro (h | h | h)
 · exact .inl (.inl h.symm)
 · exact .inl (.inr h.symm)
 exact .inr h.symm
theorem verts_nodup {m:Nat} {t:Tri} (h:TriOk m t):(verts t).Nodup:=by
 obtain ⟨_,_,_,_,_,_,h1,h2,h3⟩:=h
 unfold verts
 simp only [List.nodup_cons,List.mem_cons,List.not_mem_nil,or_false,not_or,not_false_eq_true,List.nodup_nil,and_true]
 exact ⟨⟨h1,Ne.symm h3⟩,h2⟩
theorem sort3_eq {t u:Tri}:sort3 t=sort3 u ↔ (verts t).Perm (verts u):=by
 have ht:(sort3L t).Perm (verts t):=List.mergeSort_perm _ _
 have hu:(sort3L u).Perm (verts u):=List.mergeSort_perm _ _
 constructor
 · intro e
   have:sort3L t=sort3L u:=by rw [sort3_list,sort3_list,e]
   rw [this] at ht
   exact ht.symm.trans hu
 intro hp
 have hs:∀ x:Tri,(sort3L x).Pairwise fun a b=>decide (a ≤ b)=true:=fun x=>List.pairwise_mergeSort (fun a b c h1 h2=>by simp at *; omega) (fun a b=>by simp; omega) _
 have:sort3L t=sort3L u:=List.Perm.eq_of_pairwise (le:=fun a b=>decide (a ≤ b)=true) (fun a b _ _ h1 h2=>by simp at *; omega) (hs t) (hs u) (ht.trans (hp.trans hu.symm))
 have h1:=sort3_list t
 have h2:=sort3_list u
 rw [this,h2] at h1
 simp only [List.cons.injEq,and_true] at h1
 exact Prod.ext h1.1.symm (Prod.ext h1.2.1.symm h1.2.2.symm)
theorem mirrB_iff {m:Nat} {t u:Tri} (ht:TriOk m t) (hu:TriOk m u):mirrB t u=true ↔ ∃ x ∈ keys3 u,x ∈ keys3 t:=by
 have h1:(∃ x ∈ keys3 u,x ∈ keys3 t) ↔ sort3 t=sort3 u:=by
  unfold keys3
  simp only [List.mem_singleton]
  exact ⟨fun ⟨x,h,h'⟩=>h'.symm.trans h,fun h=>⟨_,rfl,h.symm⟩⟩
 rw [h1,sort3_eq]
 unfold mirrB
 simp only [Bool.and_eq_true,hasB_iff]
 constructor
 · rintro ⟨⟨h2,h3⟩,h4⟩
   refine (List.perm_ext_iff_of_nodup (verts_nodup ht) (verts_nodup hu)).2 fun x=>⟨fun hx=>?_,fun hx=>?_⟩
   · simp only [verts,List.mem_cons,List.not_mem_nil,or_false] at hx
     rcases hx with rfl | rfl | rfl <;> assumption
   refine Classical.byContradiction fun hno=>?_
   have:=nodup_le (x :: verts t) (verts u) (List.nodup_cons.2 ⟨hno,verts_nodup ht⟩) fun y hy=>by
    rcases List.mem_cons.1 hy with rfl | hy
    · exact hx
    simp only [verts,List.mem_cons,List.not_mem_nil,or_false] at hy
    rcases hy with rfl | rfl | rfl <;> assumption
   simp [verts] at this
 intro hp
 have hx:∀ x ∈ verts t,x ∈ verts u:=fun x hx=>hp.mem_iff.1 hx
 exact ⟨⟨hx _ (by simp [verts]),hx _ (by simp [verts])⟩,hx _ (by simp [verts])⟩
end
section
theorem nodup_inj {α:Type} {l:List α} (h:l.Nodup) {i j:Nat} (hi:i < l.length) (hj:j < l.length) (e:l[i]=l[j]):i=j:=by
 have hp:=List.pairwise_iff_getElem.1 h
 rcases Nat.lt_trichotomy i j with h' | h' | h'
 · exact absurd e (hp i j hi hj h')
 · exact h'
 exact absurd e.symm (hp j i hj hi h')
def shareB (T:List Tri) (v:Int) (i k:Nat):Bool:=(verts (tri T i)).any fun w=>w != v && hasB (tri T k) w
theorem shareB_iff (T:List Tri) (v:Int) (i k:Nat):shareB T v i k=true ↔ Nbr T v i k:=by
 unfold shareB Nbr
 rw [List.any_eq_true]
 simp only [Bool.and_eq_true,bne_iff_ne,hasB_iff]
 exact ⟨fun ⟨w,h1,h2,h3⟩=>⟨w,h2,h1,h3⟩,fun ⟨w,h2,h1,h3⟩=>⟨w,h1,h2,h3⟩⟩
def stepB (sh:Nat → Nat → Bool) (p:Nat → Bool) (x:Nat × Nat):Nat → Bool:=if p x.1 && !p x.2 && sh x.1 x.2 then fun u=>p u || u == x.2 else p
def pairsB (L:Nat):List (Nat × Nat):=(List.range L).flatMap fun i=>(List.range L).map fun k=>(i,k)
def passB (sh:Nat → Nat → Bool) (L:Nat) (p:Nat → Bool):Nat → Bool:=(pairsB L).foldl (stepB sh) p
def passesB (sh:Nat → Nat → Bool) (L:Nat):Nat → Nat → Bool
 | 0=>fun u=>u == 0
 | c + 1=>passB sh L (passesB sh L c)
def countB (L:Nat) (p:Nat → Bool):Nat:=((List.range L).filter p).length
def ClosedB (sh:Nat → Nat → Bool) (L:Nat) (p:Nat → Bool):Prop:=∀ i k,i < L → k < L → p i=true → sh i k=true → p k=true
section
variable {sh:Nat → Nat → Bool} {L:Nat}
theorem stepB_mono {p:Nat → Bool} {x:Nat × Nat} {u:Nat} (h:p u=true):stepB sh p x u=true:=by
 unfold stepB
 split
 · simp [h]
 exact h
theorem foldB_mono:∀ (l:List (Nat × Nat)) {p:Nat → Bool} {u:Nat},p u=true → l.foldl (stepB sh) p u=true
 | [],_,_,h=>h
 | _ :: l,_,_,h=>foldB_mono l (stepB_mono h)
theorem foldB_closed:∀ (l:List (Nat × Nat)) {p:Nat → Bool},(∀ x ∈ l,x.1 < L ∧ x.2 < L) → ClosedB sh L p → l.foldl (stepB sh) p=p
 | [],_,_,_=>rfl
 | x :: l,p,hl,hc=>by
  have h1:stepB sh p x=p:=by
   unfold stepB
   rw [if_neg]
   simp only [Bool.and_eq_true,Bool.not_eq_true',not_and]
   rintro ⟨h1,h2⟩ h3
   have:=hc x.1 x.2 (hl x (by simp)).1 (hl x (by simp)).2 h1 h3
   rw [h2] at this
   cases this
  rw [List.foldl_cons,h1]
  exact foldB_closed l (fun y hy=>hl y (by simp [hy])) hc
theorem foldB_hit:∀ (l:List (Nat × Nat)) {p:Nat → Bool} {i k:Nat},(i,k) ∈ l → p i=true → sh i k=true → l.foldl (stepB sh) p k=true
 | [],_,_,_,h,_,_=>by cases h
 | x :: l,p,i,k,h,hi,hs=>by
  rw [List.foldl_cons]
  rcases List.mem_cons.1 h with rfl | h
  · refine foldB_mono l ?_
    unfold stepB
    cases hk:p k with
    | true=>rw [if_neg (by simp)]; exact hk
    | false=>rw [if_pos (by simp [hi,hs])]; simp
  exact foldB_hit l h (stepB_mono hi) hs
theorem pairsB_mem {i k:Nat}:(i,k) ∈ pairsB L ↔ i < L ∧ k < L:=by
 unfold pairsB
 simp only [List.mem_flatMap,List.mem_map,List.mem_range,Prod.mk.injEq]
 constructor
 · rintro ⟨a,ha,b,hb,rfl,rfl⟩
   exact ⟨ha,hb⟩
 rintro ⟨hi,hk⟩
 exact ⟨i,hi,k,hk,rfl,rfl⟩
theorem passB_closed {p:Nat → Bool} (h:ClosedB sh L p):passB sh L p=p:=foldB_closed _ (fun _ hx=>pairsB_mem.1 hx) h
theorem countB_le (p:Nat → Bool):countB L p ≤ L:=by
 unfold countB
 exact Nat.le_trans (List.length_filter_le _ _) (by simp)
theorem count_lt {p q:Nat → Bool} {k:Nat} (hm:∀ u,p u=true → q u=true) (hk:k < L) (h1:p k=false) (h2:q k=true):countB L p < countB L q:=by
 unfold countB
 have:=nodup_le (k :: (List.range L).filter p) ((List.range L).filter q) (List.nodup_cons.2 ⟨(fun h=>by rw [(List.mem_filter.1 h).2] at h1; cases h1),List.Nodup.sublist List.filter_sublist List.nodup_range⟩) fun x hx=>by
  rcases List.mem_cons.1 hx with rfl | hx
  · exact List.mem_filter.2 ⟨List.mem_range.2 hk,h2⟩
  exact List.mem_filter.2 ⟨(List.mem_filter.1 hx).1,hm _ (List.mem_filter.1 hx).2⟩
 simp only [List.length_cons] at this
 omega
theorem passB_grows {p:Nat → Bool} (h:¬ ClosedB sh L p):countB L p < countB L (passB sh L p):=by
 have:∃ i k,i < L ∧ k < L ∧ p i=true ∧ sh i k=true ∧ p k=false:=by
  refine Classical.byContradiction fun hno=>h fun i k hi hk h1 h2=>?_
  cases h3:p k with
  | true=>rfl
  | false=>exact absurd ⟨i,k,hi,hk,h1,h2,h3⟩ hno
 obtain ⟨i,k,hi,hk,h1,h2,h3⟩:=this
 exact count_lt (fun u hu=>foldB_mono _ hu) hk h3 (foldB_hit _ (pairsB_mem.2 ⟨hi,hk⟩) h1 h2)
theorem passesB_spec (hL:0 < L):∀ c,ClosedB sh L (passesB sh L c) ∨ c + 1 ≤ countB L (passesB sh L c)
 | 0=>by
  right
  unfold countB passesB
  have:(0:Nat) ∈ (List.range L).filter fun u=>u == 0:=List.mem_filter.2 ⟨List.mem_range.2 hL,rfl⟩
  exact List.length_pos_of_mem this
 | c + 1=>by
  rcases passesB_spec hL c with h | h
  · left
    show ClosedB sh L (passB sh L (passesB sh L c))
    rw [passB_closed h]
    exact h
  by_cases hc:ClosedB sh L (passesB sh L c)
  · left
    show ClosedB sh L (passB sh L (passesB sh L c))
    rw [passB_closed hc]
    exact hc
  right
  have:=passB_grows hc
  show c + 1 + 1 ≤ countB L (passB sh L (passesB sh L c))
  omega
theorem passesB_end (hL:0 < L):ClosedB sh L (passesB sh L L):=by
 rcases passesB_spec (sh:=sh) hL L with h | h
 · exact h
 have:=countB_le (L:=L) (passesB sh L L)
 omega
theorem passesB_first:∀ c,passesB sh L c 0=true
 | 0=>rfl
 | c + 1=>foldB_mono _ (passesB_first c)
theorem foldB_sound {Q:Nat → Prop} (hQ:∀ i k,i < L → k < L → Q i → sh i k=true → Q k):∀ (l:List (Nat × Nat)) (p:Nat → Bool),(∀ x ∈ l,x.1 < L ∧ x.2 < L) → (∀ u,p u=true → Q u) → ∀ u,l.foldl (stepB sh) p u=true → Q u
 | [],_,_,h=>h
 | x :: l,p,hl,h=>by
  rw [List.foldl_cons]
  refine foldB_sound hQ l _ (fun y hy=>hl y (by simp [hy])) fun u hu=>?_
  unfold stepB at hu
  split at hu
  · rename_i hc
    simp only [Bool.and_eq_true] at hc
    simp only [Bool.or_eq_true,beq_iff_eq] at hu
    rcases hu with hu | rfl
    · exact h u hu
    exact hQ x.1 x.2 (hl x (by simp)).1 (hl x (by simp)).2 (h _ hc.1.1) hc.2
  exact h u hu
theorem passesB_sound {Q:Nat → Prop} (h0:Q 0) (hQ:∀ i k,i < L → k < L → Q i → sh i k=true → Q k):∀ c u,passesB sh L c u=true → Q u
 | 0,u,h=>by
  obtain rfl:u=0:=by simpa [passesB] using h
  exact h0
 | c + 1,u,h=>foldB_sound hQ (pairsB L) (passesB sh L c) (fun _ hx=>pairsB_mem.1 hx) (passesB_sound h0 hQ c) u h
end
def pinchB (T:List Tri) (v:Int) (S:List Nat):Bool:=!(List.range S.length).all (passesB (fun i k=>shareB T v (S.getD i 0) (S.getD k 0)) S.length S.length)
theorem pinchB_conn {T:List Tri} {v:Int} {S:List Nat} (hn:S.Nodup) (h0:S ≠ []):pinchB T v S=!connB T v S:=by
 have hL:0 < S.length:=List.length_pos_iff.2 h0
 have hmem:∀ u,u < S.length → S.getD u 0 ∈ S:=fun u hu=>by
  rw [List.getD_eq_getElem?_getD,List.getElem?_eq_getElem hu]
  exact List.getElem_mem hu
 have hhead:S.headD 0=S.getD 0 0:=by
  cases S with
  | nil=>exact absurd rfl h0
  | cons a l=>rfl
 have key:(List.range S.length).all (passesB (fun i k=>shareB T v (S.getD i 0) (S.getD k 0)) S.length S.length)=true ↔ Conn T v S:=by
  rw [List.all_eq_true]
  constructor
  · intro hall k hk
    obtain ⟨u,hu,rfl⟩:=List.getElem_of_mem hk
    have h1:=hall u (List.mem_range.2 hu)
    have:=passesB_sound (sh:=fun i k=>shareB T v (S.getD i 0) (S.getD k 0)) (L:=S.length) (Q:=fun u=>u < S.length → Reach (fun a b=>a ∈ S ∧ b ∈ S ∧ Nbr T v a b) (S.headD 0) (S.getD u 0))
     (fun _=>by rw [hhead]; exact Reach.refl _ _) (fun i k hi hk hq hs _=>(hq hi).step ⟨hmem i hi,hmem k hk,(shareB_iff _ _ _ _).1 hs⟩) S.length u h1 hu
    rw [List.getD_eq_getElem?_getD,List.getElem?_eq_getElem hu] at this
    exact this
  intro hc u hu
  have hu:=List.mem_range.1 hu
  have hcl:=passesB_end (sh:=fun i k=>shareB T v (S.getD i 0) (S.getD k 0)) hL
  obtain ⟨u',hu',e,hf⟩:=hc (S.getD u 0) (hmem u hu) (fun x=>∃ u',u' < S.length ∧ S.getD u' 0=x ∧ passesB (fun i k=>shareB T v (S.getD i 0) (S.getD k 0)) S.length S.length u'=true)
   ⟨0,hL,hhead.symm,passesB_first _⟩ (fun x y ⟨a,ha,ea,hfa⟩ ⟨_,hy,hxy⟩=>by
    obtain ⟨b,hb,rfl⟩:=List.getElem_of_mem hy
    have eb:S.getD b 0=S[b]:=by rw [List.getD_eq_getElem?_getD,List.getElem?_eq_getElem hb]; rfl
    refine ⟨b,hb,eb,hcl a b ha hb hfa ?_⟩
    show shareB T v (S.getD a 0) (S.getD b 0)=true
    rw [shareB_iff,ea,eb]
    exact hxy)
  have:u'=u:=by
   rw [List.getD_eq_getElem?_getD,List.getD_eq_getElem?_getD,List.getElem?_eq_getElem hu',List.getElem?_eq_getElem hu] at e
   exact nodup_inj hn hu' hu e
  rw [← this]
  exact hf
 unfold pinchB
 cases hb:connB T v S with
 | true=>rw [key.2 ((connB_iff _ _ _).1 hb)]
 | false =>
  cases ha:(List.range S.length).all (passesB (fun i k=>shareB T v (S.getD i 0) (S.getD k 0)) S.length S.length) with
  | false=>rfl
  | true=>rw [(connB_iff _ _ _).2 (key.1 ha)] at hb; cases hb
end
section
def firstL:List (List (Int × Int × Int)) → List (Int × Int × Int)
 | []=>[]
 | [] :: l=>firstL l
 | (x :: xs) :: _=>x :: xs
def refW (kind:Int) (test:Tri → Tri → Bool) (T:List Tri) (n:Nat):List (Int × Int × Int):=(refD test T n).map (wit kind)
def pinchedB (T:List Tri) (n v:Nat):Bool:=!(atL T n (v:Int)).isEmpty && pinchB T (v:Int) (atL T n (v:Int))
def refAll (N:Int) (T:List Tri):List (Int × Int × Int) :=
 firstL [indexL N T.length T,picks 2 (loopB T) T.length,refW 3 twiceB T T.length,refW 4 mirrB T T.length,picks 5 (fun v=>!usedTo T T.length v) N.toNat,picks 6 (fun v=>pinchedB T T.length v) N.toNat]
theorem firstL_no {x:List (Int × Int × Int)} {l:List (List (Int × Int × Int))} (h:x=[]):firstL (x :: l)=firstL l:=by subst h; rfl
theorem firstL_yes {x:List (Int × Int × Int)} {l:List (List (Int × Int × Int))} (h:x ≠ []):firstL (x :: l)=x:=by
 cases x with
 | nil=>exact absurd rfl h
 | cons a l=>rfl
theorem first_step {k:Int} {D:List (Int × Int)} {x:List (Int × Int × Int)} {l:List (Int × List (Int × Int))} {l':List (List (Int × Int × Int))} (h1:(sortP D).map (wit k)=x) (h2:D=[] → firstK l=firstL l') :
  firstK ((k,D) :: l)=firstL (x :: l'):=by
 by_cases hD:D=[]
 · rw [firstK_no hD,h2 hD,firstL_no]
   subst hD
   rw [← h1,show sortP []=[] from List.eq_nil_of_length_eq_zero (sortP_len [])]
   rfl
 rw [firstK_yes hD,h1,firstL_yes]
 intro e
 rw [e] at h1
 have:(sortP D).length=0:=by have:=congrArg List.length h1; simpa using this
 rw [sortP_len] at this
 exact hD (List.eq_nil_of_length_eq_zero this)
theorem picks_sorted (kind:Int) (p:Nat → Bool) (k:Nat):(sortP (picksD p k)).map (wit kind)=picks kind p k:=by rw [sortP_self (picksD_sorted p k),picks_wit]
theorem allL_ref (N:Int) (T:List Tri):allL N T=refAll N T:=by
 unfold allL refAll allK
 refine first_step (by rw [sortP_self (indexD_sorted _ _ _),indexL_wit]) fun h1=>?_
 obtain ⟨hN0,hN1,hT1⟩:=indexD_nil rfl h1
 obtain ⟨m,rfl⟩:=Int.eq_ofNat_of_zero_le hN0
 rw [Int.toNat_natCast]
 refine first_step (picks_sorted _ _ _) fun h2=>?_
 have hok:∀ t ∈ T,TriOk m t:=fun t ht=>by
  obtain ⟨⟨a0,a1⟩,⟨b0,b1⟩,c0,c1⟩:=hT1 t ht
  obtain ⟨q1,q2,q3⟩:=loopD_nil rfl h2 t ht
  exact ⟨a0,a1,b0,b1,c0,c1,q1,q2,q3⟩
 refine first_step (by unfold refW; rw [pairs_spec keys2 (fun _=>Nat.le_refl _) twiceB (fun t ht=>keys2_nodup (hok t ht)) (fun t _ u _=>twiceB_iff t u)]) fun h3=>?_
 refine first_step (by unfold refW; rw [pairs_spec keys3 (fun t=>by simp [keys3]) mirrB (fun t _=>by simp [keys3]) (fun t ht u hu=>mirrB_iff (hok t ht) (hok u hu))]) fun h4=>?_
 refine first_step (picks_sorted _ _ _) fun h5=>?_
 have huse:=lonelyD_nil rfl h5
 have e:∀ v,v ∈ List.range m → (!connB T (v:Int) (atL T T.length (v:Int)))=pinchedB T T.length v:=fun v hv=>by
  have hne:=huse v (List.mem_range.1 hv)
  unfold pinchedB
  rw [pinchB_conn (atL_nodup _ _ _) hne]
  have:(atL T T.length (v:Int)).isEmpty=false:=by
   cases h:atL T T.length (v:Int) with
   | nil=>exact absurd h hne
   | cons a l=>rfl
  rw [this]
  rfl
 have e2:picks 6 (fun v=>!connB T (v:Int) (atL T T.length (v:Int))) m=picks 6 (fun v=>pinchedB T T.length v) m:=by
  unfold picks
  rw [List.filter_congr e]
 refine first_step (by rw [picks_sorted,e2]) fun _=>rfl
def checkR (N:Int) (T:List Tri):Int × Int × Int:=(refAll N T).headD (0,0,0)
end
section
def wv (x:Int × Int × Int):Value:=.agg #[.int .i64 x.1,.int .i64 x.2.1,.int .i64 x.2.2]
theorem run_eq_wit (x y:Int × Int × Int) (w:World):(binOp .eql 39 (wv x) (wv y)).run Tryz.prog w=.ok (.bool (decide (x=y))) w:=by
 have h1:Tryz.prog.underlying 39 = some (.struct (Tryz.prog.fieldsOf 39)):=by kernel_rfl
 have h2:Tryz.prog.stoodInHeld 39 = false:=by kernel_rfl
 unfold wv
 rw [run_eql_struct,run_equalIn_agg (P:=Tryz.prog) w 9999 39 _ _ h1 h2]
 simp only [Program.fieldsOf,Tryz.underlying39]
 simp [Op.eqFields,go_sem,Tryz.underlying3,Result.andThen]
 obtain ⟨a,b,c⟩:=x
 obtain ⟨a',b',c'⟩:=y
 by_cases h3:a=a'
 · by_cases h4:b=b'
   · by_cases h5:c=c'
     · simp [h3,h4,h5]
     simp [h3,h4,h5]
   simp [h3,h4]
 simp [h3]
def CheckPost (w:World) (x:Int × Int × Int) (e:Ending) (w':World):Prop:=e=.returned (wv x) ∧ Below w.heap.size w w'
theorem check_any (N:Int) (A:Option Addr) (n c:Nat) (T:List Tri) (w:World) (hn:n ≤ 1000) (ht:TrisAt w w.heap.size A n T) :
  Calls Tryz.prog 24 #[.agg #[.int .i64 N,.slice A n c]] w (CheckPost w (checkR N T)):=by
 have hb0:Below w.heap.size w ((w.alloc (.cells #[.int .i64 N,.slice A n c] 24)).alloc (.cells #[.int .i64 0,.int .i64 0,.int .i64 0] 39)):=((Below.refl _ _).alloc (Nat.le_refl _) _).alloc (by simp) _
 have hall:=all_any N A n c T ((w.alloc (.cells #[.int .i64 N,.slice A n c] 24)).alloc (.cells #[.int .i64 0,.int .i64 0,.int .i64 0] 39)) hn ((ht.below hb0).more hb0.size)
 rw [allL_ref] at hall
 have hbr:Blk ((w.alloc (.cells #[.int .i64 N,.slice A n c] 24)).alloc (.cells #[.int .i64 0,.int .i64 0,.int .i64 0] 39)) (w.heap.size + 1) 39 #[.int .i64 0,.int .i64 0,.int .i64 0]:=Blk.new_ (by simp) _ _
 have HALL:=jJ hall
 have HB0:=jJ hb0
 have HBR:=jJ hbr
 have HCH:Hid (checkR N T=(refAll N T).headD (0,0,0)):=jJ rfl
 rw [HCH.out]
 clear hb0 hall hbr ht
 generalize refAll N T=L at *
 go_enter Tryz.func24,Tryz.ntmps24
 go_wp2_with fail
 refine HALL.out.mono ?_
 rintro e w1 ⟨A1,c1,rfl,hr,hb⟩
 have hb1:=HBR.out.below hb (by simp)
 have HB1:=jJ hb1
 have x0:=hb1.cell 0
 have x1:=hb1.cell 1
 have x2:=hb1.cell 2
 simp at x0 x1 x2
 have y0:=hb1.frozen 0
 have y1:=hb1.frozen 1
 have y2:=hb1.frozen 2
 have hl1:=hb1.lt
 have HBW:=jJ (HB0.out.trans (hb.mono HB0.out.size))
 have HR:=jJ hr
 clear hb hb1 hr
 cases L with
 | nil =>
  have hl:([]:List (Int × Int × Int)).length=0:=rfl
  rw [hl]
  go_wp2_with fail
  refine bodyPost_ret (v:=wv (0,0,0)) ?_ rfl ⟨rfl,?_⟩
  · simp [results,Tryz.results24,go_sem,wv,x0,x1,x2]
  exact ((HBW.out.setCell (p:=⟨w.heap.size + 1,0,none⟩) (by simp) _).setCell (p:=⟨w.heap.size + 1,1,none⟩) (by simp) _).setCell (p:=⟨w.heap.size + 1,2,none⟩) (by simp) _
 | cons x L =>
  obtain ⟨ad,eA,hadb,hcs⟩:=(Reads.of_own HR.out).2 (by simp)
  subst eA
  have d0:=hcs 0 _ rfl
  have d1:=hcs 1 _ rfl
  have d2:=hcs 2 _ rfl
  rw [add_zero_] at d0
  obtain ⟨e0,e1,e2,e3,e4,e5⟩:=cells3 d0 d1 d2
  have hlen:0 < (x :: L).length:=by simp
  clear hcs d0 d1 d2
  generalize (x :: L).length=ln at hlen ⊢
  have e0':w1.cell? (ad.add 0)=some (.int .i64 x.1):=by rw [add_zero_]; exact e0
  go_wp2_with fail
  refine bodyPost_ret (v:=wv x) ?_ rfl ⟨rfl,?_⟩
  · simp [results,Tryz.results24,go_sem,wv,x0,x1,x2]
  exact ((HBW.out.setCell (p:=⟨w.heap.size + 1,0,none⟩) (by simp) _).setCell (p:=⟨w.heap.size + 1,1,none⟩) (by simp) _).setCell (p:=⟨w.heap.size + 1,2,none⟩) (by simp) _
end
section
theorem firstL_nil:∀ {l:List (List (Int × Int × Int))},firstL l=[] → ∀ x ∈ l,x=[]
 | [],_,x,hx=>by cases hx
 | [] :: l,h,x,hx=>by
  rcases List.mem_cons.1 hx with rfl | hx
  · rfl
  exact firstL_nil (l:=l) h x hx
 | (a :: xs) :: l,h,x,hx=>by cases h
theorem picks_nil {kind:Int} {p:Nat → Bool} {k:Nat} (h:picks kind p k=[]):∀ i,i < k → p i=false:=by
 intro i hi
 cases hb:p i with
 | false=>rfl
 | true =>
  have:(kind,(i:Int),(0:Int)) ∈ picks kind p k:=by
   unfold picks
   exact List.mem_map.2 ⟨i,List.mem_filter.2 ⟨List.mem_range.2 hi,hb⟩,rfl⟩
  rw [h] at this
  cases this
theorem picks_nil_of {kind:Int} {p:Nat → Bool} {k:Nat} (h:∀ i,i < k → p i=false):picks kind p k=[]:=by
 unfold picks
 rw [List.filter_eq_nil_iff.2 (fun i hi=>by rw [h i (List.mem_range.1 hi)]; decide)]
 rfl
structure Surf (N:Int) (T:List Tri) (m:Nat):Prop where
 n:N=(m:Int)
 m1:m ≤ 4096
 t1:T.length ≤ 8192
 ok:∀ t ∈ T,TriOk m t
 twice:refD twiceB T T.length=[]
 mirr:refD mirrB T T.length=[]
 used:∀ v,v < m → usedTo T T.length v=true
 pinch:∀ v,v < m → pinchedB T T.length v=false
theorem surf_of {N:Int} {T:List Tri} (h:refAll N T=[]):∃ m,Surf N T m:=by
 have hx:=firstL_nil h
 have h1:=hx (indexL N T.length T) (by simp)
 have h2:=hx (picks 2 (loopB T) T.length) (by simp)
 have h3:=hx (refW 3 twiceB T T.length) (by simp)
 have h4:=hx (refW 4 mirrB T T.length) (by simp)
 have h5:=hx (picks 5 (fun v=>!usedTo T T.length v) N.toNat) (by simp)
 have h6:=hx (picks 6 (fun v=>pinchedB T T.length v) N.toNat) (by simp)
 rw [indexL_wit] at h1
 have h1:indexD N T.length T=[]:=List.map_eq_nil_iff.1 h1
 obtain ⟨q1,q2,q3⟩:=indexD_nil rfl h1
 obtain ⟨m,rfl⟩:=Int.eq_ofNat_of_zero_le q1
 rw [Int.toNat_natCast] at h5 h6
 have hl:=picks_nil h2
 refine ⟨m,rfl,by omega,?_,fun t ht=>?_,List.map_eq_nil_iff.1 h3,List.map_eq_nil_iff.1 h4,fun v hv=>?_,fun v hv=>picks_nil h6 v hv⟩
 · unfold indexD at h1
   split at h1
   · cases h1
   rename_i hs
   refine Nat.not_lt.1 fun h'=>hs ?_
   unfold sizeB
   simp only [Bool.or_eq_true,decide_eq_true_eq]
   exact .inr h'
 · obtain ⟨⟨a0,a1⟩,⟨b0,b1⟩,c0,c1⟩:=q3 t ht
   obtain ⟨i,hi,e⟩:=List.getElem_of_mem ht
   have hb:=hl i hi
   unfold loopB at hb
   rw [List.getElem?_eq_getElem hi,e] at hb
   simp only [Bool.or_eq_false_iff,beq_eq_false_iff_ne] at hb
   exact ⟨a0,a1,b0,b1,c0,c1,hb.1.1,hb.1.2,hb.2⟩
 have:=picks_nil h5 v hv
 cases hu:usedTo T T.length v with
 | true=>rfl
 | false=>simp [hu] at this
theorem surf_first {m:Nat} {T:List Tri} (h1:m ≤ 4096) (h2:T.length ≤ 8192) (hok:∀ t ∈ T,TriOk m t) (h3:refD twiceB T T.length=[]) (h4:refD mirrB T T.length=[]) :
  refAll (m:Int) T=firstL [picks 5 (fun v=>!usedTo T T.length v) m,picks 6 (fun v=>pinchedB T T.length v) m]:=by
 unfold refAll
 rw [firstL_no,firstL_no,firstL_no,firstL_no,Int.toNat_natCast]
 · unfold refW; rw [h4]; rfl
 · unfold refW; rw [h3]; rfl
 · refine picks_nil_of fun i hi=>?_
   unfold loopB
   rw [List.getElem?_eq_getElem hi]
   obtain ⟨_,_,_,_,_,_,q1,q2,q3⟩:=hok _ (List.getElem_mem hi)
   simp [q1,q2,q3]
 unfold indexL
 rw [if_neg]
 · refine picks_nil_of fun i hi=>?_
   unfold indexB
   rw [List.getElem?_eq_getElem hi]
   obtain ⟨a0,a1,b0,b1,c0,c1,_,_,_⟩:=hok _ (List.getElem_mem hi)
   unfold badV
   simp only [Bool.or_eq_false_iff,decide_eq_false_iff_not]
   refine ⟨⟨⟨?_,?_⟩,?_,?_⟩,?_,?_⟩ <;> omega
 unfold sizeB
 simp only [Bool.or_eq_true,decide_eq_true_eq]
 omega
theorem surf_all {N:Int} {T:List Tri} {m:Nat} (h:Surf N T m):refAll N T=[]:=by
 obtain ⟨rfl,h1,h2,hok,h3,h4,h5,h6⟩:=h
 rw [surf_first h1 h2 hok h3 h4,firstL_no,firstL_no]
 · rfl
 · exact picks_nil_of h6
 exact picks_nil_of fun v hv=>by simp [h5 v hv]
theorem firstL_mem:∀ {l:List (List (Int × Int × Int))} {x:Int × Int × Int},x ∈ firstL l → ∃ y ∈ l,x ∈ y
 | [],x,h=>by cases h
 | [] :: l,x,h=>by
  obtain ⟨y,hy,hx⟩:=firstL_mem (l:=l) h
  exact ⟨y,by simp [hy],hx⟩
 | (a :: xs) :: l,x,h=>⟨a :: xs,by simp,h⟩
theorem picks_kind {kind:Int} {p:Nat → Bool} {k:Nat} {x:Int × Int × Int} (h:x ∈ picks kind p k):x.1=kind:=by
 unfold picks at h
 obtain ⟨_,_,rfl⟩:=List.mem_map.1 h
 rfl
theorem refW_kind {kind:Int} {test:Tri → Tri → Bool} {T:List Tri} {n:Nat} {x:Int × Int × Int} (h:x ∈ refW kind test T n):x.1=kind:=by
 unfold refW at h
 obtain ⟨_,_,rfl⟩:=List.mem_map.1 h
 rfl
theorem ref_kind {N:Int} {T:List Tri} {x:Int × Int × Int} (h:x ∈ refAll N T):1 ≤ x.1 ∧ x.1 ≤ 6:=by
 obtain ⟨y,hy,hx⟩:=firstL_mem h
 simp only [List.mem_cons,List.not_mem_nil,or_false] at hy
 rcases hy with rfl | rfl | rfl | rfl | rfl | rfl
 · unfold indexL at hx
   split at hx
   · rw [List.mem_singleton.1 hx]; decide
   rw [picks_kind hx]; decide
 · rw [picks_kind hx]; decide
 · rw [refW_kind hx]; decide
 · rw [refW_kind hx]; decide
 · rw [picks_kind hx]; decide
 rw [picks_kind hx]; decide
theorem no_zero (N:Int) (T:List Tri):((0:Int),(0:Int),(0:Int)) ∉ refAll N T:=fun h=>by
 have:=(ref_kind h).1
 simp at this
theorem check_is (N:Int) (T:List Tri):checkR N T=(0,0,0) ↔ refAll N T=[]:=by
 unfold checkR
 constructor
 · intro h
   cases hr:refAll N T with
   | nil=>rfl
   | cons x l =>
    rw [hr] at h
    have hx:x=(0,0,0):=h
    subst hx
    have hm:((0:Int),(0:Int),(0:Int)) ∈ refAll N T:=by rw [hr]; simp
    exact absurd hm (no_zero N T)
 intro h
 rw [h]
 rfl
end
end Go.Proofs.YtffmfhkiienmaaaGreat
