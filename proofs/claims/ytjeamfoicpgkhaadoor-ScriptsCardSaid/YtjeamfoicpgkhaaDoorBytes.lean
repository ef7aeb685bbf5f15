/- Bytes of a text in memory: the slice that []byte(s) makes, a byte that is written, and the text that it reads as. -/
import Derived.Test.YtjeamfoicpgkhaaDoorMem
import Derived.Laws.BytesArg
import Derived.Lib.ConvBytes
namespace Go.Proofs.YtjeamfoicpgkhaaDoor.Bytes
open Go.RowKit Go.Proofs.YtjeamfoicpgkhaaDoor.Mem
set_option linter.unusedVariables false
set_option linter.unusedSimpArgs false

theorem bytesWorld_facts (w : World) (e : TypeId) (s : ByteArray) : Below w.heap.size w (Lib.bytesWorld w e s) ∧
    (∀ j, j < s.size → (Lib.bytesWorld w e s).cell? ⟨w.heap.size, j, none⟩ = some (.int .u8 (s.data.toList.getD j 0).toNat)) ∧
    (∀ j, j < s.size → (Lib.bytesWorld w e s).frozen? ⟨w.heap.size, j, none⟩ = false) ∧ (Lib.bytesWorld w e s).heap.size = w.heap.size + 1 := by
  refine ⟨⟨rfl, rfl, rfl, by rw [Lib.bytesWorld_size]; omega, fun k hk => Lib.bytesWorld_at_old w e s k hk⟩, fun j hj => Lib.bytesWorld_cell w e s j hj, fun j hj => ?_, Lib.bytesWorld_size w e s⟩
  have h1 : s.size ≤ (Lib.bytesCells w e s).size := by
    simp only [Lib.bytesCells, Array.size_append, Array.size_map]
    have : s.data.size = s.size := rfl
    omega
  simp only [World.frozen?, Lib.bytesWorld_at_new]
  simp
  omega
theorem byte_is (x : Int) (h0 : 0 ≤ x) (h1 : x ≤ 255) : ∃ X : UInt8, x = (X.toNat : Int) := ⟨UInt8.ofNat x.toNat, by rw [UInt8.toNat_ofNat']; omega⟩
theorem str_ne {a b : ByteArray} (h : a ≠ b) : (a.toList == b.toList) = false := by
  rw [beq_eq_false_iff_ne]
  rw [ByteArray.toList_eq, ByteArray.toList_eq]
  exact fun e => h (ByteArray.ext (Array.toList_inj.1 e))
theorem place_is (n : Int) (m : Nat) (h : 0 < m) (hm : m ≤ 9223372036854775807) : ∃ j : Nat, wrap64 ((IntKind.u64.wrap n).tmod (m : Int)) = (j : Int) ∧ j < m := by
  have h0 : 0 ≤ IntKind.u64.wrap n := by rw [IntKind.wrap_u64]; omega
  rw [Int.tmod_eq_emod_of_nonneg h0]
  have h1 := Int.emod_nonneg (IntKind.u64.wrap n) (show (m : Int) ≠ 0 by omega)
  have h2 := Int.emod_lt_of_pos (IntKind.u64.wrap n) (show (0 : Int) < m by omega)
  refine ⟨(IntKind.u64.wrap n % (m : Int)).toNat, ?_, by omega⟩
  generalize IntKind.u64.wrap n % (m : Int) = q at *
  unfold wrap64
  omega
structure BytesNew (B : Nat) (w w1 : World) (L : List UInt8) (n : Nat) : Prop where
  below : Below B w w1
  cell : ∀ j, j < n → w1.cell? ⟨B, j, none⟩ = some (.int .u8 (L.getD j 0).toNat)
  free : ∀ j, j < n → w1.frozen? ⟨B, j, none⟩ = false
  size : w1.heap.size = B + 1
theorem bytesNew (w : World) (nq : Nat) (e : TypeId) (s : ByteArray) : BytesNew w.heap.size w (Lib.bytesWorld (w.drewN nq) e s) s.data.toList s.size := by
  obtain ⟨h1, h2, h3, h4⟩ := bytesWorld_facts (w.drewN nq) e s
  exact ⟨(show Below w.heap.size w (w.drewN nq) from ⟨rfl, rfl, rfl, Nat.le_refl _, fun _ _ => rfl⟩).trans h1, h2, h3, h4⟩
theorem BytesNew.drewN {B : Nat} {w w1 : World} {L : List UInt8} {n : Nat} (h : BytesNew B w w1 L n) (q : Nat) : BytesNew B w (w1.drewN q) L n :=
  ⟨h.below.trans ⟨rfl, rfl, rfl, Nat.le_refl _, fun _ _ => rfl⟩, h.cell, h.free, h.size⟩
theorem bytes_put (w1 : World) (B : Nat) (L : List UInt8) (n j : Nat) (X : UInt8) (hn : L.length = n) (hc : ∀ k, k < n → w1.cell? ⟨B, k, none⟩ = some (.int .u8 (L.getD k 0).toNat)) (hj : j < n) :
    ∀ k, k < n → (w1.setCell ⟨B, j, none⟩ (.int .u8 X.toNat)).cell? ⟨B, k, none⟩ = some (.int .u8 ((L.set j X).getD k 0).toNat) := by
  intro k hk
  by_cases e0 : j = k
  · subst e0
    rw [World.cell?_setCell_same (h := hc j hj)]
    rw [List.getD_eq_getElem?_getD, List.getElem?_set_self (by omega)]
    rfl
  · rw [World.cell?_setCell_other (h := by intro q; injection q with _ q; exact e0 q), hc k hk]
    rw [List.getD_eq_getElem?_getD, List.getD_eq_getElem?_getD, List.getElem?_set_ne e0]
theorem bytes_read {P : Program} (w1 : World) (B : Nat) (L : List UInt8) (n c : Nat) (hn : L.length = n) (hc : ∀ k, k < n → w1.cell? ⟨B, k, none⟩ = some (.int .u8 (L.getD k 0).toNat))
    (src e dst : TypeId) (hs : P.underlying src = some (.slice e)) (he : P.underlying e = some (.int .u8)) (hd : P.underlying dst = some .string) :
    (convert src dst (.slice (some ⟨B, 0, none⟩) n c)).run P w1 = .ok (.string ⟨L.toArray⟩) w1 := by
  have h2 := run_convert_bytes_arg (P := P) w1 src e hs he B 0 n c (L.map fun b => (b.toNat : Int)) (by simp [hn])
    (fun i hi => by
      rw [Nat.zero_add, hc i hi]
      have hi' : i < L.length := by omega
      rw [List.getD_eq_getElem?_getD, List.getD_eq_getElem?_getD, List.getElem?_map, List.getElem?_eq_getElem hi']
      rfl) dst hd
  rw [h2]
  have h3 : strOfNums (L.map fun b => (b.toNat : Int)) = ⟨L.toArray⟩ := by
    unfold strOfNums
    rw [List.map_map]
    have : ((fun n : Int => UInt8.ofNat n.toNat) ∘ fun b : UInt8 => (b.toNat : Int)) = id := by
      funext b
      simp
    rw [this, List.map_id]
  rw [h3]
theorem BytesNew.put {B : Nat} {w w1 : World} {L : List UInt8} {n : Nat} (h : BytesNew B w w1 L n) (hn : L.length = n) (j : Nat) (X : UInt8) (hj : j < n) : BytesNew B w (w1.setCell ⟨B, j, none⟩ (.int .u8 X.toNat)) (L.set j X) n :=
  ⟨h.below.setCell (Nat.le_refl _) _, bytes_put w1 B L n j X hn h.cell hj, fun k hk => by rw [World.frozen?_setCell]; exact h.free k hk, by simp [World.setCell, h.size]⟩

end Go.Proofs.YtjeamfoicpgkhaaDoor.Bytes
