/- Bytes as strings. No condition. -/
import Derived.Test.YtieoeednfgpoiaaCome
namespace Go.Proofs.Ytieoeednfgpoiaa
open Go.RowKit


/-- A string of bytes. -/
def strOf (l : List UInt8) : Value := .string ⟨l.toArray⟩

theorem fold_push : ∀ (l : List UInt8) (s : List UInt8), (l.map fun b => (b.toNat : Int)).foldl (fun (r : ByteArray) (n : Int) => r.push (UInt8.ofNat n.toNat)) ⟨s.toArray⟩ = ⟨(s ++ l).toArray⟩
  | [], s => by simp
  | b :: l, s => by
    rw [List.map_cons, List.foldl_cons]
    have e : (⟨s.toArray⟩ : ByteArray).push (UInt8.ofNat ((b.toNat : Int)).toNat) = ⟨(s ++ [b]).toArray⟩ := by
      rw [Int.toNat_natCast, UInt8.ofNat_toNat]
      simp [ByteArray.push]
    rw [e, fold_push l (s ++ [b])]
    simp

theorem run_string_of {w : World} {B n c : Nat} {A : Option Addr} {l : List UInt8} (h : Reads w B 1 A n (B8 l)) : Sem.run Try.prog (Conv.bytesToString (.slice A n c)) w = .ok (strOf l) w := by
  have hl : l.length = n := by have := h.1; rw [B8_length] at this; omega
  cases A with
  | none =>
    have h0 : n = 0 := by
      rcases Nat.eq_zero_or_pos n with h0 | h0
      · exact h0
      · obtain ⟨_, h', _⟩ := h.2 h0; cases h'
    have : l = [] := List.length_eq_zero_iff.1 (by omega)
    subst this
    rfl
  | some a =>
    have hB : (l.map fun b => (b.toNat : Int)).map (Value.int .u8) = B8 l := by unfold B8; rw [List.map_map]; rfl
    have hld : Sem.run Try.prog (loadCells a n) w = .ok ((l.map fun b => (b.toNat : Int)).map (Value.int .u8)).toArray w := by
      rw [hB, ← hl, ← B8_length l]
      refine run_loadCells_list w a (B8 l) fun j v hj => ?_
      have h0 : 0 < n := by have := (List.getElem?_eq_some_iff.1 hj).1; rw [B8_length] at this; omega
      obtain ⟨ad, e, _, hc⟩ := h.2 h0
      injection e with e
      subst e
      exact hc j v hj
    rw [run_bytesToString (P := Try.prog) w a n c _ hld]
    have := fold_push l []
    unfold strOf
    rw [List.nil_append] at this
    rw [← this]
    rfl
theorem run_conv_string {w : World} {B n c : Nat} {A : Option Addr} {l : List UInt8} (h : Reads w B 1 A n (B8 l)) : Sem.run Try.prog (convert 35 9 (.slice A n c)) w = .ok (strOf l) w := by
  rw [run_convert_bytes_string w 35 9 5 A n c Try.underlying35 Try.underlying5 Try.underlying9]
  exact run_string_of h
theorem run_neq_str (l : List UInt8) (w : World) : Sem.run Try.prog (binOp .neq 9 (strOf l) (strOf l)) w = .ok (.bool false) w := by
  unfold strOf
  simp [go_sem]
theorem run_prefix (A : Option Addr) (n c h : Nat) (h1 : h ≤ c) (w : World) : (Instr.slice 35 (.slice A n c) none (some (.int .i64 (h : Int))) none).run Try.prog w = .ok (.slice A h c) w := by
  obtain ⟨i5, hi5, _⟩ := info_parts u8_info
  have := run_slice_to (P := Try.prog) Try.underlying35 hi5 A n c h h1 w
  rw [this]
  have e : (Option.map (fun x : Addr => x.add 0) A) = A := by cases A <;> simp [add_zero_]
  rw [e]
  split <;> rfl
end Go.Proofs.Ytieoeednfgpoiaa
