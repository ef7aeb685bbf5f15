/- The laws on sums, walked. -/
import Derived.Test.YtmhnnkifkbamoaaSumWalk
import Derived.Below
import Derived.Laws.BytesArg
import Derived.Lib.ConvBytes
import Derived.Laws.Slices
import Derived.Deep.DeepCutAuto
import Derived.Deep.CutBlock
import Derived.Handy
namespace Go.Proofs.Ytmhnnkifkbamoaa.SumLaws
open Go.RowKit Go.Proofs.Ytmhnnkifkbamoaa.SumMath Go.Proofs.Ytmhnnkifkbamoaa.SumWalk
set_option linter.unusedVariables false
set_option linter.unusedSimpArgs false

theorem s1 : sumL (⟨#[]⟩ : ByteArray).data.toList = 0 := by decide +kernel
theorem s2 : sumL (⟨#[97, 98]⟩ : ByteArray).data.toList = 293 := by decide +kernel
theorem s3 : sumL (⟨#[97]⟩ : ByteArray).data.toList = 97 := by decide +kernel
theorem sum_lit (s : ByteArray) (n : Int) (h : sumL s.data.toList = n) (hs : s.size ≤ 140737488351232) (w : World) :
    Calls Try.prog 15 #[.string s] w fun e w' => e = .returned (.int .i64 n) ∧ w' = w := h ▸ sum_any s w hs
theorem num_any (n : Int) (w : World) : Calls Try.prog 23 #[.int .i64 n] w fun e w' => e = .returned (.int .i64 n) ∧ w = w' := by
  go_enter Try.func23, Try.ntmps23
  go_wp2
  go_ret
  exact ⟨rfl, rfl⟩
set_option maxHeartbeats 400000 in
theorem awake_any (w : World) :
    Calls Try.prog 17 #[] w fun e w' => e = .returned (.bool true) ∧ w = w' := by
  go_enter Try.func17, Try.ntmps17
  go_wp2_with fail
  refine (sum_lit _ 0 s1 (by decide) _).mono ?_
  rintro e w' ⟨rfl, rfl⟩
  go_wp2_with fail
  refine (sum_lit _ 293 s2 (by decide) _).mono ?_
  rintro e w' ⟨rfl, rfl⟩
  go_wp2_with fail
  refine (sum_lit _ 97 s3 (by decide) _).mono ?_
  rintro e w' ⟨rfl, rfl⟩
  go_wp2_with fail
  refine (num_any _ _).mono ?_
  rintro e w' ⟨rfl, rfl⟩
  go_wp2_with fail
  go_ret
  exact ⟨rfl, rfl⟩

theorem bytesWorld_facts (w : World) (e : TypeId) (s : ByteArray) : Below w.heap.size w (Lib.bytesWorld w e s) ∧
    (∀ j, j < s.size → (Lib.bytesWorld w e s).cell? ⟨w.heap.size, j, none⟩ = some (.int .u8 (s.data.toList.getD j 0).toNat)) ∧
    (∀ j, j < s.size → (Lib.bytesWorld w e s).frozen? ⟨w.heap.size, j, none⟩ = false) ∧ (Lib.bytesWorld w e s).heap.size = w.heap.size + 1 := by
  refine ⟨⟨rfl, rfl, rfl, by rw [Lib.bytesWorld_size]; omega, fun k hk => Lib.bytesWorld_at_old w e s k hk⟩, fun j hj => Lib.bytesWorld_cell w e s j hj, fun j hj => ?_, Lib.bytesWorld_size w e s⟩
  have h1 : s.size ≤ (Lib.bytesCells w e s).size := by
    simp only [Lib.bytesCells, Array.size_append, Array.size_map]
    have : s.data.size = s.size := rfl
    omega
  simp only [World.frozen?, Lib.bytesWorld_at_new]
  simp
  omega
theorem byte_is (x : Int) (h0 : 0 ≤ x) (h1 : x ≤ 255) : ∃ X : UInt8, x = (X.toNat : Int) := ⟨UInt8.ofNat x.toNat, by rw [UInt8.toNat_ofNat']; omega⟩
/-- A byte of a made slice of bytes is written: what it reads as. -/
theorem bytes_set {P : Program} (w1 : World) (B : Nat) (s : ByteArray) (j c : Nat) (X : UInt8) (hc : ∀ j, j < s.size → w1.cell? ⟨B, j, none⟩ = some (.int .u8 (s.data.toList.getD j 0).toNat)) (hj : j < s.size)
    (src e dst : TypeId) (hs : P.underlying src = some (.slice e)) (he : P.underlying e = some (.int .u8)) (hd : P.underlying dst = some .string) :
    (∀ k, k < s.size → (w1.setCell ⟨B, j, none⟩ (.int .u8 X.toNat)).cell? ⟨B, k, none⟩ = some (.int .u8 ((s.data.toList.set j X).getD k 0).toNat)) ∧
    (convert src dst (.slice (some ⟨B, 0, none⟩) s.size c)).run P (w1.setCell ⟨B, j, none⟩ (.int .u8 X.toNat)) = .ok (.string ⟨(s.data.toList.set j X).toArray⟩) (w1.setCell ⟨B, j, none⟩ (.int .u8 X.toNat)) := by
  have hl : s.data.toList.length = s.size := Array.length_toList
  have h1 : ∀ k, k < s.size → (w1.setCell ⟨B, j, none⟩ (.int .u8 X.toNat)).cell? ⟨B, k, none⟩ = some (.int .u8 ((s.data.toList.set j X).getD k 0).toNat) := by
    intro k hk
    by_cases e0 : j = k
    · subst e0
      rw [World.cell?_setCell_same (h := hc j hj)]
      rw [List.getD_eq_getElem?_getD, List.getElem?_set_self (by omega)]
      rfl
    · rw [World.cell?_setCell_other (h := by intro q; injection q with _ q; exact e0 q), hc k hk]
      rw [List.getD_eq_getElem?_getD, List.getD_eq_getElem?_getD, List.getElem?_set_ne e0]
  refine ⟨h1, ?_⟩
  have h2 := run_convert_bytes_arg (P := P) (w1.setCell ⟨B, j, none⟩ (.int .u8 X.toNat)) src e hs he B 0 s.size c ((s.data.toList.set j X).map fun b => (b.toNat : Int)) (by simp [hl])
    (fun i hi => by
      rw [Nat.zero_add, h1 i hi]
      have hi' : i < (s.data.toList.set j X).length := by rw [List.length_set]; omega
      rw [List.getD_eq_getElem?_getD, List.getD_eq_getElem?_getD, List.getElem?_map, List.getElem?_eq_getElem hi']
      rfl) dst hd
  rw [h2]
  have h3 : strOfNums ((s.data.toList.set j X).map fun b => (b.toNat : Int)) = ⟨(s.data.toList.set j X).toArray⟩ := by
    unfold strOfNums
    rw [List.map_map]
    have : ((fun n : Int => UInt8.ofNat n.toNat) ∘ fun b : UInt8 => (b.toNat : Int)) = id := by
      funext b
      simp
    rw [this, List.map_id]
  rw [h3]
theorem str_ne {a b : ByteArray} (h : a ≠ b) : (a.toList == b.toList) = false := by
  rw [beq_eq_false_iff_ne]
  rw [ByteArray.toList_eq, ByteArray.toList_eq]
  exact fun e => h (ByteArray.ext (Array.toList_inj.1 e))
theorem place_is (n : Int) (m : Nat) (h : 0 < m) (hm : m ≤ 9223372036854775807) : ∃ j : Nat, wrap64 ((IntKind.u64.wrap n).tmod (m : Int)) = (j : Int) ∧ j < m := by
  have h0 : 0 ≤ IntKind.u64.wrap n := by rw [IntKind.wrap_u64]; omega
  rw [Int.tmod_eq_emod_of_nonneg h0]
  have h1 := Int.emod_nonneg (IntKind.u64.wrap n) (show (m : Int) ≠ 0 by omega)
  have h2 := Int.emod_lt_of_pos (IntKind.u64.wrap n) (show (0 : Int) < m by omega)
  refine ⟨(IntKind.u64.wrap n % (m : Int)).toNat, ?_, by omega⟩
  generalize IntKind.u64.wrap n % (m : Int) = q at *
  unfold wrap64
  omega
/-- A place in a text, for any number. -/
theorem place_lt (n : Int) (m : Nat) (h : 0 < m) (hm : m ≤ 9223372036854775807) : 0 ≤ IntKind.u64.wrap n % (m : Int) ∧ IntKind.u64.wrap n % (m : Int) < m :=
  ⟨Int.emod_nonneg _ (by omega), Int.emod_lt_of_pos _ (by omega)⟩
set_option maxHeartbeats 400000 in
theorem turned_any (s : ByteArray) (n b : Int) (w : World) (hs : s.size ≤ 140737488351232) :
    Calls Try.prog 4 #[.string s, .int .i64 n, .int .i64 b] w fun e w' => e = .returned (.bool true) ∧ Below w.heap.size w w' := by
  by_cases h0 : s.size < 1
  · go_enter Try.func4, Try.ntmps4
    go_wp2_with fail
    refine (awake_any _).mono ?_
    rintro e w' ⟨rfl, rfl⟩
    go_wp2_with fail
    go_ret
    exact ⟨rfl, Below.refl _ _⟩
  by_cases h1 : 1000000 < s.size
  · go_enter Try.func4, Try.ntmps4
    go_wp2_with fail
    refine (awake_any _).mono ?_
    rintro e w' ⟨rfl, rfl⟩
    go_wp2_with fail
    go_ret
    exact ⟨rfl, Below.refl _ _⟩
  have hp := place_lt n s.size (by omega) (by omega)
  have hlo : 1 ≤ (s.size : Int) := by omega
  have hhi : (s.size : Int) ≤ 1000000 := by omega
  clear h0 h1
  go_enter Try.func4, Try.ntmps4
  go_wp2_with fail
  refine (awake_any _).mono ?_
  rintro e w' ⟨rfl, rfl⟩
  have kb := fun W : World => Lib.run_convert_string_bytes (P := Try.prog) W 9 25 5 s Try.underlying9 Try.underlying25 Try.underlying5
  go_upto_region 6 with (fail)
  obtain ⟨c, hc⟩ : ∃ c, c = grownCap w s.size 0 5 := ⟨_, rfl⟩
  rw [← hc]
  clear hc kb
  have hcell := bytesWorld_facts w 5 s
  generalize Lib.bytesWorld w 5 s = w1 at *
  obtain ⟨hbel, hcel, hfr, hsz⟩ := hcell
  go_upto_region 7 with (fail)
  obtain ⟨j, hj, hjs⟩ : ∃ j : Nat, wrap64 ((IntKind.u64.wrap n).tmod ↑s.size) = (j : Int) ∧ j < s.size := place_is n s.size (by omega) (by omega)
  rw [hj]
  clear hj hp
  have c1 := hcel j hjs
  have f1 := hfr j hjs
  have HC := Lib.hid hcel
  have HF := Lib.hid hfr
  clear hcel hfr
  go_upto_region 8 with (fail)
  obtain ⟨X, hX⟩ := byte_is (bits BinOp.xor IntKind.u8 (↑s.data[j].toNat) (wrap64 (1 + bits BinOp.and IntKind.i64 b 254) % 256)) (bits_lo_u8 _ _ _) (bits_hi_u8 _ _ _)
  rw [hX]
  clear hX
  obtain ⟨hs1, hs2⟩ := bytes_set (P := Try.prog) w1 w.heap.size s j c X HC.out hjs 25 5 9 Try.underlying25 Try.underlying5 Try.underlying9
  have hbel2 : Below w.heap.size w (w1.setCell ⟨w.heap.size, j, none⟩ (Value.int IntKind.u8 X.toNat)) := hbel.setCell (Nat.le_refl _) _
  generalize w1.setCell ⟨w.heap.size, j, none⟩ (Value.int IntKind.u8 X.toNat) = w2 at *
  have HB := Lib.hid hbel2
  have HA := Lib.hid (sumL_set s.data.toList j X (by simpa using hjs) (by rw [Array.length_toList]; show s.size ≤ 1000000; omega))
  clear hbel hbel2 HC HF c1 f1
  by_cases heq : X = s.data.toList[j]'(by simpa using hjs)
  · have hT : (⟨(s.data.toList.set j X).toArray⟩ : ByteArray) = s := by
      rw [heq, List.set_getElem_self]
    rw [hT] at hs2
    have hbb : (s.toList == s.toList) = true := beq_self_eq_true _
    clear heq HA hs1 hT
    go_wp2_with fail
    go_ret
    exact ⟨rfl, HB.out⟩
  · have HN := Lib.hid (HA.out heq)
    clear hs1
    have hsz : (⟨(s.data.toList.set j X).toArray⟩ : ByteArray).size = s.size := by
      show (s.data.toList.set j X).toArray.size = _
      rw [List.size_toArray, List.length_set, Array.length_toList]; rfl
    have HT : Hid ((⟨(s.data.toList.set j X).toArray⟩ : ByteArray).data.toList = s.data.toList.set j X) := rfl
    generalize (⟨(s.data.toList.set j X).toArray⟩ : ByteArray) = T at *
    have HZ := Lib.hid hsz
    clear hsz
    have hbb : (T.toList == s.toList) = false := str_ne (by
      intro e
      have h1 := HN.out
      rw [← HT.out, e] at h1
      exact h1 rfl)
    clear heq HA
    go_wp2_with fail
    refine (sum_any T _ (by have := HZ.out; omega)).mono ?_
    rintro e w' ⟨rfl, rfl⟩
    go_wp2_with fail
    refine (sum_any s _ hs).mono ?_
    rintro e w' ⟨rfl, rfl⟩
    have hnn : (sumL T.data.toList != sumL s.data.toList) = true := by
      rw [bne_iff_ne, HT.out]
      exact HN.out
    go_wp2_with fail
    go_ret
    exact ⟨rfl, HB.out⟩

theorem concat_data (s t : ByteArray) : (s ++ t).data.toList = s.data.toList ++ t.data.toList := ByteArray.toList_data_append
theorem bsum_step (l : List UInt8) (k : Nat) (h : k < l.length) : bsum (l.take (k + 1)) = bsum (l.take k) + (l[k].toNat : Int) := by
  rw [List.take_succ_eq_append_getElem h, bsum_append]
  simp [bsum]
set_option maxHeartbeats 400000 in
theorem parts_any (s t : ByteArray) (w : World) (hs : s.size ≤ 140737488351232) (ht : t.size ≤ 140737488351232) :
    Calls Try.prog 5 #[.string s, .string t] w fun e w' => e = .returned (.bool true) ∧ Below w.heap.size w w' := by
  by_cases h0 : 5000 < s.size + t.size
  · go_enter Try.func5, Try.ntmps5
    go_wp2_with fail
    refine (awake_any _).mono ?_
    rintro e w' ⟨rfl, rfl⟩
    go_wp2_with fail
    go_ret
    exact ⟨rfl, Below.refl _ _⟩
  have hle : (s.size : Int) + t.size ≤ 5000 := by omega
  clear h0
  go_enter Try.func5, Try.ntmps5
  go_wp2_with fail
  refine (awake_any _).mono ?_
  rintro e w' ⟨rfl, rfl⟩
  go_wp2_with fail
  go_loop [5, 6] (fun n i => ∃ k : Nat, k ≤ t.size ∧ i = .int .i64 k ∧ n = .int .i64 (bsum (t.data.toList.take k))) (fun _ i => t.size - (intOf i).toNat)
  case atStart => exact ⟨0, Nat.zero_le _, rfl, rfl⟩
  case round =>
    obtain ⟨k, hk, rfl, rfl⟩ := hrel
    by_cases hlt : k < t.size
    · have hl : k < t.data.toList.length := by simpa using hlt
      have HS := Lib.hid (bsum_step t.data.toList k hl)
      have hr := bsum_range (t.data.toList.take k)
      have hlen : ((t.data.toList.take k).length : Int) ≤ 5000 := by rw [List.length_take]; omega
      have hb := t[k].toNat_lt
      go_wp2
      go_round
      case rel => exact ⟨k + 1, by omega, by go_num, by rw [HS.out]; rfl⟩
      case measure => simp [intOf]; omega
    · have e0 : t.data.toList.take k = t.data.toList := List.take_of_length_le (by rw [Array.length_toList]; show t.size ≤ k; omega)
      rw [e0]
      clear e0
      have hr := bsum_range t.data.toList
      have hlen : (t.data.toList.length : Int) = t.size := by rw [Array.length_toList]; rfl
      have hsl : (s.data.toList.length : Int) = s.size := by rw [Array.length_toList]; rfl
      have hm : (s.size : Int) * bsum t.data.toList ≤ 5000 * 1275000 := Int.mul_le_mul (by omega) (by omega) hr.1 (by omega)
      have hm0 : 0 ≤ (s.size : Int) * bsum t.data.toList := Int.mul_nonneg (by omega) hr.1
      have ha := sumL_range s.data.toList
      have hb := sumL_range t.data.toList
      have hab : sumL (s ++ t).data.toList = (sumL s.data.toList + sumL t.data.toList + (s.size : Int) * bsum t.data.toList) % 1000003 := by
        rw [concat_data, sumL_append, hsl]
      have hz : (s ++ t).size ≤ 140737488351232 := by
        rw [ByteArray.size_append]; omega
      have HAB : Hid ((sumL (s ++ t).data.toList == (sumL s.data.toList + sumL t.data.toList + (s.size : Int) * bsum t.data.toList) % 1000003) = true) := by rw [hab]; exact beq_self_eq_true _
      clear hab hlen hsl
      have HZ := Lib.hid hz
      clear hz
      go_wp2_with fail
      refine (sum_any _ _ HZ.out).mono ?_
      rintro e w' ⟨rfl, rfl⟩
      go_wp2_with fail
      refine (sum_any _ _ hs).mono ?_
      rintro e w' ⟨rfl, rfl⟩
      go_wp2_with fail
      refine (sum_any _ _ ht).mono ?_
      rintro e w' ⟨rfl, rfl⟩
      go_wp2_with fail
      go_ret
      exact ⟨congrArg (fun b => Ending.returned (Value.bool b)) HAB.out, Below.refl _ _⟩

structure BytesNew (B : Nat) (w w1 : World) (L : List UInt8) (n : Nat) : Prop where
  below : Below B w w1
  cell : ∀ j, j < n → w1.cell? ⟨B, j, none⟩ = some (.int .u8 (L.getD j 0).toNat)
  free : ∀ j, j < n → w1.frozen? ⟨B, j, none⟩ = false
  size : w1.heap.size = B + 1
theorem bytesNew (w : World) (nq : Nat) (e : TypeId) (s : ByteArray) : BytesNew w.heap.size w (Lib.bytesWorld (w.drewN nq) e s) s.data.toList s.size := by
  obtain ⟨h1, h2, h3, h4⟩ := bytesWorld_facts (w.drewN nq) e s
  exact ⟨(show Below w.heap.size w (w.drewN nq) from ⟨rfl, rfl, rfl, Nat.le_refl _, fun _ _ => rfl⟩).trans h1, h2, h3, h4⟩
theorem BytesNew.drewN {B : Nat} {w w1 : World} {L : List UInt8} {n : Nat} (h : BytesNew B w w1 L n) (q : Nat) : BytesNew B w (w1.drewN q) L n :=
  ⟨h.below.trans ⟨rfl, rfl, rfl, Nat.le_refl _, fun _ _ => rfl⟩, h.cell, h.free, h.size⟩
theorem bytes_put (w1 : World) (B : Nat) (L : List UInt8) (n j : Nat) (X : UInt8) (hn : L.length = n) (hc : ∀ k, k < n → w1.cell? ⟨B, k, none⟩ = some (.int .u8 (L.getD k 0).toNat)) (hj : j < n) :
    ∀ k, k < n → (w1.setCell ⟨B, j, none⟩ (.int .u8 X.toNat)).cell? ⟨B, k, none⟩ = some (.int .u8 ((L.set j X).getD k 0).toNat) := by
  intro k hk
  by_cases e0 : j = k
  · subst e0
    rw [World.cell?_setCell_same (h := hc j hj)]
    rw [List.getD_eq_getElem?_getD, List.getElem?_set_self (by omega)]
    rfl
  · rw [World.cell?_setCell_other (h := by intro q; injection q with _ q; exact e0 q), hc k hk]
    rw [List.getD_eq_getElem?_getD, List.getD_eq_getElem?_getD, List.getElem?_set_ne e0]
theorem bytes_read {P : Program} (w1 : World) (B : Nat) (L : List UInt8) (n c : Nat) (hn : L.length = n) (hc : ∀ k, k < n → w1.cell? ⟨B, k, none⟩ = some (.int .u8 (L.getD k 0).toNat))
    (src e dst : TypeId) (hs : P.underlying src = some (.slice e)) (he : P.underlying e = some (.int .u8)) (hd : P.underlying dst = some .string) :
    (convert src dst (.slice (some ⟨B, 0, none⟩) n c)).run P w1 = .ok (.string ⟨L.toArray⟩) w1 := by
  have h2 := run_convert_bytes_arg (P := P) w1 src e hs he B 0 n c (L.map fun b => (b.toNat : Int)) (by simp [hn])
    (fun i hi => by
      rw [Nat.zero_add, hc i hi]
      have hi' : i < L.length := by omega
      rw [List.getD_eq_getElem?_getD, List.getD_eq_getElem?_getD, List.getElem?_map, List.getElem?_eq_getElem hi']
      rfl) dst hd
  rw [h2]
  have h3 : strOfNums (L.map fun b => (b.toNat : Int)) = ⟨L.toArray⟩ := by
    unfold strOfNums
    rw [List.map_map]
    have : ((fun n : Int => UInt8.ofNat n.toNat) ∘ fun b : UInt8 => (b.toNat : Int)) = id := by
      funext b
      simp
    rw [this, List.map_id]
  rw [h3]
theorem BytesNew.put {B : Nat} {w w1 : World} {L : List UInt8} {n : Nat} (h : BytesNew B w w1 L n) (hn : L.length = n) (j : Nat) (X : UInt8) (hj : j < n) : BytesNew B w (w1.setCell ⟨B, j, none⟩ (.int .u8 X.toNat)) (L.set j X) n :=
  ⟨h.below.setCell (Nat.le_refl _) _, bytes_put w1 B L n j X hn h.cell hj, fun k hk => by rw [World.frozen?_setCell]; exact h.free k hk, by simp [World.setCell, h.size]⟩
theorem getElem_getD (L : List UInt8) (x : Nat) (h : x < L.length) : L.getD x 0 = L[x] := by rw [List.getD_eq_getElem?_getD, List.getElem?_eq_getElem h]; rfl
theorem swap_set (L : List UInt8) (n x y : Nat) (hx : x < n) (hy : y < n) (hn : L.length = n) (hl : n ≤ 1000000) :
    (sumL ((L.set x (L.getD y 0)).set y (L.getD x 0)) == sumL L) = (L.getD x 0 == L.getD y 0 || x == y) := by
  subst hn
  rw [getElem_getD L x hx, getElem_getD L y hy, Bool.eq_iff_iff, beq_iff_eq, sumL_swap L x y hx hy hl, Bool.or_eq_true, beq_iff_eq, beq_iff_eq]
set_option maxHeartbeats 400000 in
theorem places_any (s : ByteArray) (n m : Int) (w : World) (hs : s.size ≤ 140737488351232) :
    Calls Try.prog 6 #[.string s, .int .i64 n, .int .i64 m] w fun e w' => e = .returned (.bool true) ∧ Below w.heap.size w w' := by
  by_cases h0 : s.size < 2
  · go_enter Try.func6, Try.ntmps6
    go_wp2_with fail
    refine (awake_any _).mono ?_
    rintro e w' ⟨rfl, rfl⟩
    go_wp2_with fail
    go_ret
    exact ⟨rfl, Below.refl _ _⟩
  by_cases h1 : 5000 < s.size
  · go_enter Try.func6, Try.ntmps6
    go_wp2_with fail
    refine (awake_any _).mono ?_
    rintro e w' ⟨rfl, rfl⟩
    go_wp2_with fail
    go_ret
    exact ⟨rfl, Below.refl _ _⟩
  have hlo : 2 ≤ (s.size : Int) := by omega
  have hhi : (s.size : Int) ≤ 5000 := by omega
  clear h0 h1
  obtain ⟨x, hx, hxs⟩ := place_is n s.size (by omega) (by omega)
  obtain ⟨y, hy, hys⟩ := place_is m s.size (by omega) (by omega)
  have HX := Lib.hid hx
  have HY := Lib.hid hy
  clear hx hy
  go_enter Try.func6, Try.ntmps6
  go_wp2_with fail
  refine (awake_any _).mono ?_
  rintro e w' ⟨rfl, rfl⟩
  go_wp2_with fail
  go_quiet (fail)
  rw [HX.out, HY.out]
  have kb := fun W : World => Lib.run_convert_string_bytes (P := Try.prog) W 9 25 5 s Try.underlying9 Try.underlying25 Try.underlying5
  go_upto_region 7 with (fail)
  generalize grownCap (w.drewN nq) s.size 0 5 = c
  have hlx : s.data.toList.length = s.size := Array.length_toList
  have hf := bytesNew w nq 5 s
  have hsw := swap_set s.data.toList s.size x y hxs hys hlx (by omega)
  have HLX := Lib.hid hlx
  generalize Lib.bytesWorld (w.drewN nq) 5 s = w1 at *
  have cx := hf.cell x hxs
  have cy := hf.cell y hys
  generalize hp : s.data.toList.getD x 0 = p at *
  generalize hq : s.data.toList.getD y 0 = q at *
  have HF := Lib.hid hf
  have HSW := Lib.hid hsw
  clear hf kb HX HY hlx hsw hp hq
  go_quiet (fail)
  have hf := HF.out.drewN nq
  generalize w1.drewN nq = w2 at *
  clear HF cx cy
  have fx := hf.free x hxs
  have cx := hf.cell x hxs
  have HF := Lib.hid hf
  clear hf
  go_upto_region 9 with (fail)
  have hf := HF.out.put HLX.out x q hxs
  clear HF cx fx
  generalize w2.setCell { block := w.heap.size, off := x } (Value.int IntKind.u8 ↑q.toNat) = w3 at *
  have fx := hf.free y hys
  have cx := hf.cell y hys
  have HF := Lib.hid hf
  clear hf
  go_upto_region 10 with (fail)
  have hf := HF.out.put (by rw [List.length_set]; exact HLX.out) y p hys
  clear HF cx fx
  generalize w3.setCell { block := w.heap.size, off := y } (Value.int IntKind.u8 ↑p.toNat) = w4 at *
  have hk := bytes_read (P := Try.prog) w4 w.heap.size _ s.size c (by rw [List.length_set, List.length_set]; exact HLX.out) hf.cell 25 5 9 Try.underlying25 Try.underlying5 Try.underlying9
  have HB := Lib.hid hf.below
  have hz : ((s.data.toList.set x q).set y p).toArray.size = s.size := by
    rw [List.size_toArray, List.length_set, List.length_set]; exact HLX.out
  have HT : Hid ((⟨((s.data.toList.set x q).set y p).toArray⟩ : ByteArray).data.toList = (s.data.toList.set x q).set y p) := rfl
  have HZ : Hid ((⟨((s.data.toList.set x q).set y p).toArray⟩ : ByteArray).size = s.size) := hz
  generalize (⟨((s.data.toList.set x q).set y p).toArray⟩ : ByteArray) = T at *
  rw [← HT.out] at HSW
  clear hf hz HT
  go_wp2_with fail
  refine (sum_any T _ (by have := HZ.out; omega)).mono ?_
  rintro e w' ⟨rfl, rfl⟩
  go_wp2_with fail
  refine (sum_any s _ hs).mono ?_
  rintro e w' ⟨rfl, rfl⟩
  have hpq : (p == q) = decide ((p.toNat : Int) = (q.toNat : Int)) := by
    rw [Bool.eq_iff_iff, beq_iff_eq, decide_eq_true_eq, ← UInt8.toNat_inj]
    omega
  have hsw := HSW.out
  rw [hpq] at hsw
  clear HSW hpq
  generalize (p.toNat : Int) = P at *
  generalize (q.toNat : Int) = Q at *
  generalize sumL T.data.toList = S1 at *
  generalize sumL s.data.toList = S2 at *
  clear HLX hk
  by_cases hPQ : P = Q
  · have e1 : (P == Q) = true := beq_iff_eq.2 hPQ
    have e2 : (S1 == S2) = true := by rw [hsw, decide_eq_true hPQ]; rfl
    clear hPQ hsw
    go_wp2_with fail
    go_ret
    exact ⟨rfl, HB.out⟩
  · have e1 : (P == Q) = false := beq_eq_false_iff_ne.2 hPQ
    by_cases hxy : x = y
    · have e2 : (S1 == S2) = true := by rw [hsw, beq_iff_eq.2 hxy, Bool.or_true]
      have e3 : (x == y) = true := beq_iff_eq.2 hxy
      have e4 : ((x : Int) == (y : Int)) = true := beq_iff_eq.2 (by omega)
      clear hPQ hsw hxy
      go_wp2_with fail
      go_ret
      exact ⟨rfl, HB.out⟩
    · have e2 : (S1 == S2) = false := by rw [hsw, beq_eq_false_iff_ne.2 hxy, decide_eq_false hPQ]; rfl
      have e3 : (x == y) = false := beq_eq_false_iff_ne.2 hxy
      have e4 : ((x : Int) == (y : Int)) = false := beq_eq_false_iff_ne.2 (by omega)
      clear hPQ hsw hxy
      go_wp2_with fail
      go_ret
      exact ⟨rfl, HB.out⟩
end Go.Proofs.Ytmhnnkifkbamoaa.SumLaws
