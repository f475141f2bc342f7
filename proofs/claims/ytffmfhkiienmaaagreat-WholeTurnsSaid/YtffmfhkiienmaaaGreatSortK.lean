/- A row of the call's own, sorted by slices.SortFunc: from the row to the sort's words and back. No condition. -/
import Derived.Test.YtffmfhkiienmaaaGreatB1
import Derived.Shelf.SlSortCmp.NoneTotal
set_option maxRecDepth 100000
set_option maxHeartbeats 16000000
set_option linter.all false
namespace Go.Proofs.YtffmfhkiienmaaaGreat
open Go.RowKit Go.Sort Go.Shelf
section
variable {α:Type} [Inhabited α]
theorem flatK_list (enc:α → List Value) (k:Nat) (hk:∀ x,(enc x).length=k) (d:Array α):(flatK enc k d).toList=d.toList.flatMap enc:=by
 refine List.ext_getElem? fun t=>?_
 by_cases ht:t < d.size * k
 · have hk0:0 < k:=by
    rcases Nat.eq_zero_or_pos k with h | h
    · subst h; simp at ht
    exact h
   have hi:t / k < d.size:=(Nat.div_lt_iff_lt_mul hk0).2 ht
   have hj:t % k < k:=Nat.mod_lt _ hk0
   have h1:=flatMap_at k enc hk d.toList (t / k) (t % k) d[t / k] (by simp [hi]) hj
   have e:t / k * k + t % k=t:=by rw [Nat.mul_comm]; exact Nat.div_add_mod t k
   rw [e] at h1
   rw [h1,Array.getElem?_toList,Array.getElem?_eq_getElem (by simpa using ht)]
   have h2:=get_flatK enc k d t ht
   rw [getElem!_pos _ t (by simpa using ht),getElem!_pos d (t / k) hi] at h2
   rw [h2,List.getElem?_eq_getElem (by rw [hk]; exact hj),getElem!_pos _ (t % k) (by rw [hk]; exact hj)]
 · rw [List.getElem?_eq_none (by simp; omega),List.getElem?_eq_none (by rw [flatMap_len k enc hk]; simp; omega)]
theorem own_holds {w:World} {base:Nat} {e:TypeId} {k g n cap:Nat} {enc:α → List Value} (hk:∀ x,(enc x).length=k) {d:Array α} (h:w.ownsRow base e k (.slice (some ⟨g,0,none⟩) n cap) n (d.toList.flatMap enc)):HoldsK enc k w g 0 d:=by
 unfold HoldsK Holds
 rw [size_flatK]
 intro j hj
 have hl:=flatK_list enc k hk d
 have hlen:(d.toList.flatMap enc).length=d.size * k:=by rw [flatMap_len k enc hk]; simp
 have hx:(d.toList.flatMap enc)[j]?=some ((flatK enc k d)[j]!):=by
  rw [← hl,Array.getElem?_toList,Array.getElem?_eq_getElem (by simpa using hj),getElem!_pos _ j (by simpa using hj)]
 have hb:=h.cells (g:=g) rfl
 rw [Nat.zero_add]
 have h1:=hb j _ hx
 have e1:(⟨g,0,none⟩:Addr).add j=⟨g,j,none⟩:=by unfold Addr.add; split <;> simp_all
 rw [e1] at h1
 refine ⟨h1,?_⟩
 obtain ⟨cs,hbl⟩:=own_blk h (k:=g) rfl
 exact hbl.frozen j
theorem heap_sortWorldK (enc:α → List Value) (k:Nat) (w:World) (g m:Nat) (d:Array α) (os:Array Obj) {cur:Array Value} {e:TypeId} (hg:w.heap[g]?=some (.cells cur e (0,0))) :
  (sortWorldK enc k w g 0 m d os).heap[g]?=some (.cells (putCells id 0 (flatK enc k d) cur) e (0,0)):=by
 have hlt:g < w.heap.size:=(Array.getElem?_eq_some_iff.1 hg).1
 unfold sortWorldK
 rw [heap_grow_old _ _ (by rw [size_putRowK]; exact hlt)]
 unfold putRowK putRow mapBlock Sort.ahead
 simp only [Array.getElem?_modify,if_true,hg,Option.map_some]
 rfl
theorem heap_sortWorldK_ne (enc:α → List Value) (k:Nat) (w:World) (g m:Nat) (d:Array α) (os:Array Obj) {i:Nat} (hi:i < w.heap.size) (hne:i ≠ g) :
  (sortWorldK enc k w g 0 m d os).heap[i]?=w.heap[i]?:=by
 unfold sortWorldK
 rw [heap_grow_old _ _ (by rw [size_putRowK]; exact hi)]
 unfold putRowK putRow mapBlock Sort.ahead
 simp only [Array.getElem?_modify,if_neg (Ne.symm hne)]
theorem only_sortWorldK (enc:α → List Value) (k:Nat) (w:World) (g m:Nat) (d:Array α) (os:Array Obj):Only (fun i=>i=g) w (sortWorldK enc k w g 0 m d os):=by
 refine ⟨rfl,rfl,rfl,?_,fun i hi hne=>heap_sortWorldK_ne enc k w g m d os hi hne⟩
 unfold sortWorldK
 rw [size_grow,size_putRowK]
 exact Nat.le_add_right _ _
theorem own_sorted {w:World} {base:Nat} {e:TypeId} {k g n cap:Nat} {enc:α → List Value} (hk:∀ x,(enc x).length=k) {d d':Array α} (hs:d'.size=d.size) (m:Nat) (os:Array Obj)
  (h:w.ownsRow base e k (.slice (some ⟨g,0,none⟩) n cap) n (d.toList.flatMap enc)):(sortWorldK enc k w g 0 m d' os).ownsRow base e k (.slice (some ⟨g,0,none⟩) n cap) n (d'.toList.flatMap enc):=by
 have hlen:=h.1
 rw [flatMap_len k enc hk] at hlen
 rcases h.2 with ⟨h0,_⟩ | ⟨g',cap',cur,hv,hb,hh,hc,hm,hcs,htk⟩
 · cases h0
 injection hv with hv _ hcap
 injection hv with hv
 injection hv with hv _ _
 subst hv hcap
 refine ⟨by rw [flatMap_len k enc hk]; simp at hlen ⊢; rw [hs]; exact hlen,.inr ⟨g,cap,_,rfl,hb,heap_sortWorldK enc k w g m d' os hh,hc,hm,by simp [putCells,hcs],?_⟩⟩
 rw [← flatK_list enc k hk]
 have hsz:(flatK enc k d').size=n * k:=by rw [size_flatK,hs]; simpa using hlen
 have hnk:n * k ≤ cur.size:=by rw [hcs]; exact Nat.mul_le_mul_right _ hc
 refine List.ext_getElem? fun t=>?_
 by_cases ht:t < n * k
 · rw [List.getElem?_take_of_lt ht,Array.getElem?_toList,Array.getElem?_toList]
   have h1:t < cur.size:=Nat.lt_of_lt_of_le ht hnk
   have h2:t < (flatK enc k d').size:=by rw [hsz]; exact ht
   unfold putCells
   rw [Array.getElem?_mapIdx,Array.getElem?_eq_getElem h1,Option.map_some,if_pos ⟨Nat.zero_le _,by rw [Nat.zero_add]; exact h2⟩,Array.getElem?_eq_getElem h2]
   simp only [Nat.sub_zero,id]
   rw [getElem!_pos _ t h2]
 rw [List.getElem?_eq_none (by simp; omega),List.getElem?_eq_none (by rw [Array.length_toList,hsz]; omega)]
end
end Go.Proofs.YtffmfhkiienmaaaGreat
