/- Several of my texts in one file: Cat, RefEnc1, RefEnc2, RefEnc3. -/
import Derived.Test.YtjeamfoicpgkhaaGreatDoorLumpA
import Derived.Test.YtjeamfoicpgkhaaGreatDoorLumpB
import Derived.Test.YtjeamfoicpgkhaaGreatDoorSameC
import Derived.Deep.RegionHeld3
/- Strings that are put together. Nothing of the program stands here. -/
namespace Go.Proofs.YtjeamfoicpgkhaaGreatDoor.Cat
open Go.RowKit Go.Lib Go.Proofs.YtjeamfoicpgkhaaGreatDoor.Dec Go.Proofs.YtjeamfoicpgkhaaGreatDoor.Take Go.Proofs.YtjeamfoicpgkhaaGreatDoor.Data Go.Proofs.YtjeamfoicpgkhaaGreatDoor.Pk Go.Proofs.YtjeamfoicpgkhaaGreatDoor.May Go.Proofs.YtjeamfoicpgkhaaGreatDoor.MayLen
set_option linter.unusedVariables false
theorem str_app (a b : List UInt8) : (⟨a.toArray⟩ : ByteArray) ++ (⟨b.toArray⟩ : ByteArray) = ⟨(a ++ b).toArray⟩ := by
  apply ByteArray.ext
  rw [ByteArray.data_append]
  simp
theorem str_size (a : List UInt8) : (⟨a.toArray⟩ : ByteArray).size = a.length := by
  show a.toArray.size = _
  simp
/-- A string with bytes behind it. -/
theorem cat_to {M : ByteArray} {m : List UInt8} (h : Hid (M = ⟨m.toArray⟩)) (l : List UInt8) : ∃ M1 : ByteArray, M ++ ⟨l.toArray⟩ = M1 ∧ Hid (M1 = ⟨(m ++ l).toArray⟩) ∧ M1.size = M.size + l.length := by
  refine ⟨_, rfl, Lib.hid (by rw [h.out, str_app]), ?_⟩
  have := ByteArray.size_append (a := M) (b := ⟨l.toArray⟩)
  rw [str_size] at this
  exact this
theorem list_str (l : List UInt8) : ∃ D : ByteArray, Hid ((⟨l.toArray⟩ : ByteArray) = D) ∧ D.size = l.length := ⟨_, Lib.hid rfl, str_size l⟩
theorem nums_next (xs : List Int) (k : Nat) (h : k < xs.length) : nums (xs.take (k + 1)) = nums (xs.take k) ++ num xs[k] := by
  rw [List.take_succ_eq_append_getElem h]
  unfold nums
  rw [List.flatMap_append]
  simp
theorem flat_next {α : Type} (f : α → List UInt8) (xs : List α) (k : Nat) (h : k < xs.length) : (xs.take (k + 1)).flatMap f = (xs.take k).flatMap f ++ f xs[k] := by
  rw [List.take_succ_eq_append_getElem h, List.flatMap_append]
  simp
end Go.Proofs.YtjeamfoicpgkhaaGreatDoor.Cat

/- The reference's packed texts: rows of numbers, edits. -/
namespace Go.Proofs.YtjeamfoicpgkhaaGreatDoor.RefEnc
open Go.RowKit Go.Lib Go.Proofs.YtjeamfoicpgkhaaGreatDoor.Mem Go.Proofs.YtjeamfoicpgkhaaGreatDoor.Read Go.Proofs.YtjeamfoicpgkhaaGreatDoor.Tree Go.Proofs.YtjeamfoicpgkhaaGreatDoor.Dec Go.Proofs.YtjeamfoicpgkhaaGreatDoor.Take Go.Proofs.YtjeamfoicpgkhaaGreatDoor.Data Go.Proofs.YtjeamfoicpgkhaaGreatDoor.Pk Go.Proofs.YtjeamfoicpgkhaaGreatDoor.May Go.Proofs.YtjeamfoicpgkhaaGreatDoor.MayLen Go.Proofs.YtjeamfoicpgkhaaGreatDoor.MsgR Go.Proofs.YtjeamfoicpgkhaaGreatDoor.CompR Go.Proofs.YtjeamfoicpgkhaaGreatDoor.Cat
open Go.Proofs.YtjeamfoicpgkhaaGreatDoor.RefDec (num_ref str_ref)
open Go.Proofs.YtjeamfoicpgkhaaGreatDoor.Same (ints_cell)
set_option linter.unusedVariables false
set_option linter.unusedSimpArgs false
set_option maxHeartbeats 4000000 in
set_option maxRecDepth 100000 in
theorem nums_ref (w : World) (xs : List Int) (v : Value) (h : SlR 1 intR w xs v) (hx : ∀ x ∈ xs, Small x) (hn : xs.length ≤ 1000000) : Calls Tryz.prog 87 #[v] w fun e w' => e = .returned (.string ⟨(row xs).toArray⟩) ∧ Step No w w' := by
  obtain ⟨A, c, rfl, -, -⟩ := sl_len h
  have HX := Lib.hid hx
  have HA := Lib.hid h
  clear h hx
  go_enter Tryz.func87, Tryz.ntmps87
  go_wp2_with fail
  refine (num_ref xs.length (by omega) (by omega) _).mono ?_
  rintro e w1 ⟨rfl, hs1⟩
  obtain ⟨N, HNn, zN⟩ := list_str (num xs.length)
  rw [HNn.out]
  have HS1 : Hid (Step No w w1) := Lib.hid hs1
  have HL := Lib.hid (num_len (x := (xs.length : Int)) ⟨by omega, by omega⟩)
  clear hs1
  go_wp2
  go_loopw [4, 3] (fun i s wr => ∃ (k : Nat) (M : ByteArray), k ≤ xs.length ∧ i = .int .i64 k ∧ s = .string M ∧ Hid (M = ⟨(num xs.length ++ nums (xs.take k)).toArray⟩) ∧ M.size ≤ 10 + 10 * k ∧ Step No w wr) (fun i _ _ => xs.length - (RowKit.intOf i).toNat)
  case atStart => exact ⟨0, N, Nat.zero_le _, rfl, rfl, Lib.hid (by rw [← HNn.out]; simp [nums]), by rw [zN]; have := HL.out; omega, HS1.out⟩
  case round =>
    obtain ⟨k, M, hk, rfl, rfl, HM, hM, hs⟩ := hrel
    by_cases hlt : k < xs.length
    · obtain ⟨ad, rfl, c0⟩ := ints_cell (ints_to HA.out hs) k hlt
      have hi0 : (0 : Int) ≤ k := by omega
      have hi1 : (k : Int) < xs.length := by omega
      have HXk : Hid (Small xs[k]) := Lib.hid (HX.out _ (List.getElem_mem hlt))
      have HT := Lib.hid (nums_next xs k hlt)
      generalize xs[k] = x at *
      obtain ⟨D, HD, zD⟩ := list_str (num x)
      have yD : D.size ≤ 10 := by rw [zD]; exact num_len HXk.out
      obtain ⟨M1, E1, HM1, z1⟩ := cat_to HM (num x)
      rw [HD.out] at E1
      rw [← zD] at z1
      clear zD
      have Hhs := Lib.hid hs
      clear hs
      go_wp2_with fail
      refine (num_ref x HXk.out.1 (by have := HXk.out.2; omega) _).mono ?_
      rintro e w2 ⟨rfl, hs2⟩
      rw [HD.out]
      have HS2 : Hid (Step No w w2) := Lib.hid (Hhs.out.trans hs2 (fun _ f _ => f))
      clear hs2
      go_wp2
      go_roundw
      case rel => exact ⟨k + 1, M1, hlt, rfl, rfl, Lib.hid (by rw [HM1.out, HT.out, List.append_assoc]), by omega, HS2.out⟩
      case measure => simp [RowKit.intOf]; omega
    · obtain rfl : k = xs.length := by omega
      rw [List.take_length] at HM
      have Hhs := Lib.hid hs
      clear hs
      go_wp2
      go_ret
      exact ⟨by rw [HM.out]; rfl, Hhs.out⟩
theorem raw_cases {c : CompD} (h : rawB c = true) : (c.kind = 1 ∧ c.text.size ≤ 4096) ∨ ((c.kind = 0 ∨ c.kind = 2) ∧ Small c.n) := by
  rcases of_decide_eq_true h with ⟨h, h1, h2, h3⟩ | ⟨h, h1, h2⟩
  · exact .inr ⟨h, h1, by omega⟩
  · exact .inl ⟨h, h2⟩
set_option maxHeartbeats 8000000 in
set_option maxRecDepth 100000 in
theorem comps_ref (w : World) (cs : List CompD) (v : Value) (h : CompsR w cs v) (hr : ∀ c ∈ cs, rawB c = true) (hn : cs.length ≤ 4096) : Calls Tryz.prog 43 #[v] w fun e w' => e = .returned (.string ⟨(editS cs).toArray⟩) ∧ Step No w w' := by
  obtain ⟨A, c, rfl, -, -⟩ := comps_len h
  have HX := Lib.hid hr
  have HA := Lib.hid h
  clear h hr
  go_enter Tryz.func43, Tryz.ntmps43
  go_wp2_with fail
  refine (num_ref cs.length (by omega) (by omega) _).mono ?_
  rintro e w1 ⟨rfl, hs1⟩
  obtain ⟨N, HNn, zN⟩ := list_str (num cs.length)
  rw [HNn.out]
  have HS1 : Hid (Step No w w1) := Lib.hid hs1
  have HL := Lib.hid (num_len (x := (cs.length : Int)) ⟨by omega, by omega⟩)
  clear hs1
  go_wp2
  go_loopw [4, 3] (fun i s wr => ∃ (k : Nat) (M : ByteArray), k ≤ cs.length ∧ i = .int .i64 k ∧ s = .string M ∧ Hid (M = ⟨(num cs.length ++ (cs.take k).flatMap compS).toArray⟩) ∧ M.size ≤ 10 + 5000 * k ∧ Step No w wr) (fun i _ _ => cs.length - (RowKit.intOf i).toNat)
  case atStart => exact ⟨0, N, Nat.zero_le _, rfl, rfl, Lib.hid (by rw [← HNn.out]; simp), by rw [zN]; have := HL.out; omega, HS1.out⟩
  case round =>
    obtain ⟨k, M, hk, rfl, rfl, HM, hM, hs⟩ := hrel
    by_cases hlt : k < cs.length
    · obtain ⟨ad, rfl, hz, c0, c1, c2⟩ := comps_cells (HA.out.to hs) k hlt
      have hi0 : (0 : Int) ≤ k := by omega
      have hi1 : (k : Int) < cs.length := by omega
      have hrk := raw_cases (HX.out _ (List.getElem_mem hlt))
      have HT := Lib.hid (flat_next compS cs k hlt)
      generalize cs[k] = x at *
      obtain ⟨q, n, t⟩ := x
      simp only at c0 c1 c2 hz hrk
      have Hhs := Lib.hid hs
      clear hs
      rcases hrk with ⟨k1, ht⟩ | ⟨k1, hn'⟩
      · subst k1
        have e1 : compS ⟨1, n, t⟩ = [112] ++ str t.data.toList := by simp [compS]
        have hT := HT.out
        rw [e1] at hT
        clear HT e1
        have HT := Lib.hid hT
        clear hT
        obtain ⟨M1, E1, HM1, z1⟩ := cat_to HM [112]
        obtain ⟨D, HD, zD⟩ := list_str (str t.data.toList)
        have htl : t.data.toList.length = t.size := Array.length_toList
        have yD : D.size ≤ 4200 := by rw [zD]; have := str_len (s := t.data.toList) ⟨by omega, by omega⟩; omega
        obtain ⟨M2, E2, HM2, z2⟩ := cat_to HM1 (str t.data.toList)
        rw [HD.out] at E2
        rw [← zD] at z2
        simp only [List.length_cons, List.length_nil] at z1
        clear zD htl
        go_wp2_with fail
        refine (str_ref t (by omega) _).mono ?_
        rintro e w2 ⟨rfl, hs2⟩
        rw [HD.out]
        have HS2 : Hid (Step No w w2) := Lib.hid (Hhs.out.trans hs2 (fun _ f _ => f))
        clear hs2
        go_wp2
        go_roundw
        case rel => exact ⟨k + 1, M2, hlt, rfl, rfl, Lib.hid (by rw [HM2.out, HT.out]; simp), by omega, HS2.out⟩
        case measure => simp [RowKit.intOf]; omega
      · rcases k1 with k1 | k1
        · subst k1
          have hT := HT.out
          clear HT
          have e1 : compS ⟨0, n, t⟩ = [107] ++ num n := by simp [compS]
          rw [e1] at hT
          have HT := Lib.hid hT
          clear hT e1
          obtain ⟨M1, E1, HM1, z1⟩ := cat_to HM [107]
          obtain ⟨D, HD, zD⟩ := list_str (num n)
          have yD : D.size ≤ 10 := by rw [zD]; exact num_len hn'
          obtain ⟨M2, E2, HM2, z2⟩ := cat_to HM1 (num n)
          rw [HD.out] at E2
          rw [← zD] at z2
          simp only [List.length_cons, List.length_nil] at z1
          have q1 : ¬ 9223372036854775807 < M.size + 1 := by omega
          have q2 : ¬ 9223372036854775806 < M.size := by omega
          have q3 : ¬ 9223372036854775807 < M1.size + D.size := by omega
          have q4 : ¬ 9223372036854775807 < M.size + 1 + D.size := by omega
          have q5 : ¬ 9223372036854775807 < (M ++ ⟨#[107]⟩).size + D.size := by rw [E1]; omega
          have hw0 : IntKind.i64.wrap 0 = 0 := by rfl
          have hw1 : IntKind.i64.wrap 1 = 1 := by rfl
          have hw2 : IntKind.i64.wrap 2 = 2 := by rfl
          have hw3 : IntKind.i64.wrap 3 = 3 := by rfl
          have hx : (⟨#[107, 32, 99]⟩ : ByteArray).extract 0 1 = ⟨#[107]⟩ := by rfl
          have Hn := Lib.hid hn'
          clear zD hn'
          have HCe : Hid (∀ w', Step No wr w' → w'.cell? (ad.add (k * 3)) = some (.int .i64 0) ∧ w'.cell? ⟨(ad.add (k * 3)).block, (ad.add (k * 3)).off + 1, none⟩ = some (.int .i64 n)) := Lib.hid fun w' hst => ⟨hst.cell c0 (fun f => f), hst.cell c1 (fun f => f)⟩
          go_upto_region 7 with (fail)
          have H2 : Hid (Step No wr wr.drew) := Lib.hid ((Step.refl No wr).drew)
          obtain ⟨d0, d1⟩ := HCe.out _ H2.out
          go_region_held3 (fun w' => w'.cell? (ad.add (k * 3)) = some (.int .i64 0) ∧ w'.cell? ⟨(ad.add (k * 3)).block, (ad.add (k * 3)).off + 1, none⟩ = some (.int .i64 n)) (first | exact ⟨d0, d1⟩ | exact ⟨f0, f1⟩) (first | (go_at_call 42; refine (num_ref n Hn.out.1 (by have := Hn.out.2; omega) _).mono ?_; rintro e w5 ⟨rfl, hs5⟩; rw [HD.out]; have H5 := Lib.hid (Step.trans (F := No) (G := No) (show Step No wr _ from by first | exact H2.out | exact Step.refl _ _) hs5 (fun _ f _ => f)); obtain ⟨f0, f1⟩ := HCe.out _ H5.out; clear hs5))
          go_wp2
          go_roundw
          case rel => exact ⟨k + 1, M2, hlt, rfl, rfl, Lib.hid (by rw [HM2.out, HT.out]; simp), by omega, Hhs.out.trans H5.out (fun _ f _ => f)⟩
          case measure => simp [RowKit.intOf]; omega
        · subst k1
          have hT := HT.out
          clear HT
          have e1 : compS ⟨2, n, t⟩ = [99] ++ num n := by simp [compS]
          rw [e1] at hT
          have HT := Lib.hid hT
          clear hT e1
          obtain ⟨M1, E1, HM1, z1⟩ := cat_to HM [99]
          obtain ⟨D, HD, zD⟩ := list_str (num n)
          have yD : D.size ≤ 10 := by rw [zD]; exact num_len hn'
          obtain ⟨M2, E2, HM2, z2⟩ := cat_to HM1 (num n)
          rw [HD.out] at E2
          rw [← zD] at z2
          simp only [List.length_cons, List.length_nil] at z1
          have q1 : ¬ 9223372036854775807 < M.size + 1 := by omega
          have q2 : ¬ 9223372036854775806 < M.size := by omega
          have q3 : ¬ 9223372036854775807 < M1.size + D.size := by omega
          have q4 : ¬ 9223372036854775807 < M.size + 1 + D.size := by omega
          have q5 : ¬ 9223372036854775807 < (M ++ ⟨#[99]⟩).size + D.size := by rw [E1]; omega
          have hw0 : IntKind.i64.wrap 0 = 0 := by rfl
          have hw1 : IntKind.i64.wrap 1 = 1 := by rfl
          have hw2 : IntKind.i64.wrap 2 = 2 := by rfl
          have hw3 : IntKind.i64.wrap 3 = 3 := by rfl
          have hx : (⟨#[107, 32, 99]⟩ : ByteArray).extract 2 3 = ⟨#[99]⟩ := by rfl
          have Hn := Lib.hid hn'
          clear zD hn'
          have HCe : Hid (∀ w', Step No wr w' → w'.cell? (ad.add (k * 3)) = some (.int .i64 2) ∧ w'.cell? ⟨(ad.add (k * 3)).block, (ad.add (k * 3)).off + 1, none⟩ = some (.int .i64 n)) := Lib.hid fun w' hst => ⟨hst.cell c0 (fun f => f), hst.cell c1 (fun f => f)⟩
          go_upto_region 7 with (fail)
          have H2 : Hid (Step No wr wr.drew) := Lib.hid ((Step.refl No wr).drew)
          obtain ⟨d0, d1⟩ := HCe.out _ H2.out
          go_region_held3 (fun w' => w'.cell? (ad.add (k * 3)) = some (.int .i64 2) ∧ w'.cell? ⟨(ad.add (k * 3)).block, (ad.add (k * 3)).off + 1, none⟩ = some (.int .i64 n)) (first | exact ⟨d0, d1⟩ | exact ⟨f0, f1⟩) (first | (go_at_call 42; refine (num_ref n Hn.out.1 (by have := Hn.out.2; omega) _).mono ?_; rintro e w5 ⟨rfl, hs5⟩; rw [HD.out]; have H5 := Lib.hid (Step.trans (F := No) (G := No) (show Step No wr _ from by first | exact H2.out | exact Step.refl _ _) hs5 (fun _ f _ => f)); obtain ⟨f0, f1⟩ := HCe.out _ H5.out; clear hs5))
          go_wp2
          go_roundw
          case rel => exact ⟨k + 1, M2, hlt, rfl, rfl, Lib.hid (by rw [HM2.out, HT.out]; simp), by omega, Hhs.out.trans H5.out (fun _ f _ => f)⟩
          case measure => simp [RowKit.intOf]; omega
    · obtain rfl : k = cs.length := by omega
      rw [List.take_length] at HM
      have Hhs := Lib.hid hs
      clear hs
      go_wp2
      go_ret
      exact ⟨by rw [HM.out]; rfl, Hhs.out⟩
end Go.Proofs.YtjeamfoicpgkhaaGreatDoor.RefEnc

/- The reference's packed texts: trees. -/
namespace Go.Proofs.YtjeamfoicpgkhaaGreatDoor.RefEnc
open Go.RowKit Go.Lib Go.Proofs.YtjeamfoicpgkhaaGreatDoor.Mem Go.Proofs.YtjeamfoicpgkhaaGreatDoor.Read Go.Proofs.YtjeamfoicpgkhaaGreatDoor.Tree Go.Proofs.YtjeamfoicpgkhaaGreatDoor.Dec Go.Proofs.YtjeamfoicpgkhaaGreatDoor.Take Go.Proofs.YtjeamfoicpgkhaaGreatDoor.Data Go.Proofs.YtjeamfoicpgkhaaGreatDoor.Pk Go.Proofs.YtjeamfoicpgkhaaGreatDoor.May Go.Proofs.YtjeamfoicpgkhaaGreatDoor.MayLen Go.Proofs.YtjeamfoicpgkhaaGreatDoor.MsgR Go.Proofs.YtjeamfoicpgkhaaGreatDoor.CompR Go.Proofs.YtjeamfoicpgkhaaGreatDoor.Cat
open Go.Proofs.YtjeamfoicpgkhaaGreatDoor.RefDec (num_ref str_ref)
set_option linter.unusedVariables false
set_option linter.unusedSimpArgs false
set_option maxHeartbeats 16000000 in
set_option maxRecDepth 100000 in
theorem tree_ref (w : World) (t : TreeD) (nv : Value) (h : NodesR w t.nodes nv) (hw : WfT t) (hk : ∀ x ∈ t.nodes, x.kids.length ≤ 2048) (hn : t.nodes.length ≤ 2048) : Calls Tryz.prog 46 #[aggT t nv] w fun e w' => e = .returned (.string ⟨(treeS t).toArray⟩) ∧ Step No w w' := by
  obtain ⟨A, c, rfl, -, -⟩ := sl_len h
  obtain ⟨rt, nx, ns⟩ := t
  obtain ⟨hw1, hw2, hw3, hw4⟩ := hw
  simp only at hw1 hw2 hw3 hw4 hk hn h
  have HW1 := Lib.hid hw1
  have HW2 := Lib.hid hw2
  have HW3 := Lib.hid hw3
  have HW4 := Lib.hid hw4
  have HKL := Lib.hid hk
  have HA := Lib.hid h
  obtain ⟨D0, HD0, zD0⟩ := list_str (num rt)
  have yD0 : D0.size ≤ 10 := by rw [zD0]; exact num_len HW1.out
  have HHD0 : Hid (D0 = ⟨(num rt).toArray⟩) := Lib.hid HD0.out.symm
  obtain ⟨D1, HD1, zD1⟩ := list_str (num nx)
  have yD1 : D1.size ≤ 10 := by rw [zD1]; exact num_len HW2.out
  obtain ⟨N1, EN1, HN1, zN1⟩ := cat_to HHD0 (num nx)
  rw [HD1.out] at EN1
  rw [← zD1] at zN1
  have wN1 : N1.size ≤ D0.size + D1.size := Nat.le_of_eq zN1
  have qN1 : ¬ 9223372036854775807 < D0.size + D1.size := by omega
  obtain ⟨D2, HD2, zD2⟩ := list_str (num (ns.length : Int))
  have yD2 : D2.size ≤ 10 := by rw [zD2]; exact num_len HW3.out
  obtain ⟨N2, EN2, HN2, zN2⟩ := cat_to HN1 (num (ns.length : Int))
  rw [HD2.out] at EN2
  rw [← zD2] at zN2
  have wN2 : N2.size ≤ N1.size + D2.size := Nat.le_of_eq zN2
  have qN2 : ¬ 9223372036854775807 < N1.size + D2.size := by omega
  have rN2 : ¬ 9223372036854775807 < D0.size + D1.size + D2.size := by omega
  clear zD0 zD1 zD2 zN1 zN2
  have yM : N2.size ≤ 30 := by omega
  clear hw1 hw2 hw3 hw4 hk h
  unfold aggT
  simp only
  go_enter Tryz.func46, Tryz.ntmps46
  go_upto_region 1 with (fail)
  generalize hW : World.alloc w _ = w1 at *
  have HB := Lib.hid (show w1.heap[w.heap.size]? = some (.cells #[.int .i64 rt, .int .i64 nx, .slice A ns.length c] 26 (0, 0)) by rw [← hW]; exact blk_new w _)
  have HS1 : Hid (Step No w w1) := Lib.hid (by rw [← hW]; exact (Step.refl No w).alloc _)
  have HC : Hid (∀ w', Step No w1 w' → w'.cell? ⟨w.heap.size, 0, none⟩ = some (.int .i64 rt) ∧ w'.cell? ⟨w.heap.size, 1, none⟩ = some (.int .i64 nx) ∧ w'.cell? ⟨w.heap.size, 2, none⟩ = some (.slice A ns.length c)) := Lib.hid fun w' hs => by
    have hb := hs.blk HB.out (fun f => f)
    exact ⟨blk_cell hb 0, blk_cell hb 1, blk_cell hb 2⟩
  clear hW
  go_cut [3] (fun s wx => s = .string N2 ∧ Step No w1 wx)
  case first =>
    have H2 : Hid (Step No w1 w1.drew) := Lib.hid ((Step.refl No w1).drew)
    go_region_held3 (fun w' => w'.cell? ⟨w.heap.size, 0, none⟩ = some (.int .i64 rt) ∧ w'.cell? ⟨w.heap.size, 1, none⟩ = some (.int .i64 nx) ∧ w'.cell? ⟨w.heap.size, 2, none⟩ = some (.slice A ns.length c)) (first | exact HC.out _ H5.out | exact HC.out _ H4.out | exact HC.out _ H3.out | exact HC.out _ H2.out) (first | (go_at_call 42; first | (refine (num_ref rt HW1.out.1 (by have := HW1.out.2; omega) _).mono ?_; rintro e v0 ⟨rfl, hv⟩; rw [HD0.out]; have H3 := Lib.hid (Step.trans (F := No) (G := No) (show Step No w1 _ from by first | exact H2.out | exact Step.refl _ _) hv (fun _ f _ => f)); clear hv) | (refine (num_ref nx HW2.out.1 (by have := HW2.out.2; omega) _).mono ?_; rintro e v1 ⟨rfl, hv⟩; rw [HD1.out]; have H4 := Lib.hid (Step.trans (F := No) (G := No) (show Step No w1 _ from by exact H3.out) hv (fun _ f _ => f)); clear hv) | (refine (num_ref (ns.length : Int) HW3.out.1 (by have := HW3.out.2; omega) _).mono ?_; rintro e v2 ⟨rfl, hv⟩; rw [HD2.out]; have H5 := Lib.hid (Step.trans (F := No) (G := No) (show Step No w1 _ from by exact H4.out) hv (fun _ f _ => f)); clear hv)))
    go_wp2
    go_meet
    exact ⟨rfl, H5.out⟩
  case rest =>
  obtain ⟨rfl, hs2⟩ := hcut
  have HS2 := Lib.hid hs2
  clear hs2
  go_wp2
  go_loopw [4, 3] (fun i s wr => ∃ (k : Nat) (M : ByteArray), k ≤ ns.length ∧ i = .int .i64 k ∧ s = .string M ∧ Hid (M = ⟨(nums [rt, nx, (ns.length : Int)] ++ (ns.take k).flatMap nodeS).toArray⟩) ∧ M.size ≤ 30 + 20530 * k ∧ Step No w1 wr) (fun i _ _ => ns.length - (RowKit.intOf i).toNat)
  case atStart => exact ⟨0, N2, Nat.zero_le _, rfl, rfl, Lib.hid (by rw [HN2.out]; simp [nums]), by omega, HS2.out⟩
  case round =>
    obtain ⟨k, M, hkn, rfl, rfl, HM, hM, hs⟩ := hrel
    obtain ⟨e0, e1, e2⟩ := HC.out wr hs
    by_cases hlt : k < ns.length
    · obtain ⟨ad, kv, rfl, hkv, c0, c1, c2, c3, c4⟩ := nodes_cells (HA.out.to (HS1.out.trans hs (fun _ f _ => f))) k hlt
      have hi0 : (0 : Int) ≤ k := by omega
      have hi1 : (k : Int) < ns.length := by omega
      have hwk := HW4.out _ (List.getElem_mem hlt)
      have HKl := Lib.hid (HKL.out _ (List.getElem_mem hlt))
      have HT := Lib.hid (flat_next nodeS ns k hlt)
      generalize ns[k] = x at *
      obtain ⟨id, kd, fr, up, ks⟩ := x
      obtain ⟨Ak, ck, rfl, -, -⟩ := sl_len hkv
      obtain ⟨g1, g2, g3, g4, g5⟩ := hwk
      simp only at c0 c1 c2 c3 c4 hkv g1 g2 g3 g4 g5 HKl
      have HI := Lib.hid g1
      have HK := Lib.hid g2
      have HF := Lib.hid g3
      have HU := Lib.hid g4
      have HKs := Lib.hid g5
      have hT := HT.out
      rw [show nodeS ⟨id, kd, fr, up, ks⟩ = num id ++ num kd ++ num fr ++ num up ++ row ks by simp [nodeS, nums]] at hT
      clear HT g1 g2 g3 g4 g5
      have HT := Lib.hid hT
      obtain ⟨D0, HD0, zD0⟩ := list_str (num id)
      have yD0 : D0.size ≤ 10 := by rw [zD0]; exact num_len HI.out
      obtain ⟨N0, EN0, HN0, zN0⟩ := cat_to HM (num id)
      rw [HD0.out] at EN0
      rw [← zD0] at zN0
      have wN0 : N0.size ≤ M.size + D0.size := Nat.le_of_eq zN0
      have qN0 : ¬ 9223372036854775807 < M.size + D0.size := by omega
      obtain ⟨D1, HD1, zD1⟩ := list_str (num kd)
      have yD1 : D1.size ≤ 10 := by rw [zD1]; exact num_len HK.out
      obtain ⟨N1, EN1, HN1, zN1⟩ := cat_to HN0 (num kd)
      rw [HD1.out] at EN1
      rw [← zD1] at zN1
      have wN1 : N1.size ≤ N0.size + D1.size := Nat.le_of_eq zN1
      have qN1 : ¬ 9223372036854775807 < N0.size + D1.size := by omega
      have rN1 : ¬ 9223372036854775807 < M.size + D0.size + D1.size := by omega
      obtain ⟨D2, HD2, zD2⟩ := list_str (num fr)
      have yD2 : D2.size ≤ 10 := by rw [zD2]; exact num_len HF.out
      obtain ⟨N2, EN2, HN2, zN2⟩ := cat_to HN1 (num fr)
      rw [HD2.out] at EN2
      rw [← zD2] at zN2
      have wN2 : N2.size ≤ N1.size + D2.size := Nat.le_of_eq zN2
      have qN2 : ¬ 9223372036854775807 < N1.size + D2.size := by omega
      have rN2 : ¬ 9223372036854775807 < M.size + D0.size + D1.size + D2.size := by omega
      obtain ⟨D3, HD3, zD3⟩ := list_str (num up)
      have yD3 : D3.size ≤ 10 := by rw [zD3]; exact num_len HU.out
      obtain ⟨N3, EN3, HN3, zN3⟩ := cat_to HN2 (num up)
      rw [HD3.out] at EN3
      rw [← zD3] at zN3
      have wN3 : N3.size ≤ N2.size + D3.size := Nat.le_of_eq zN3
      have qN3 : ¬ 9223372036854775807 < N2.size + D3.size := by omega
      have rN3 : ¬ 9223372036854775807 < M.size + D0.size + D1.size + D2.size + D3.size := by omega
      obtain ⟨D4, HD4, zD4⟩ := list_str (row ks)
      have yD4 : D4.size ≤ 20490 := by rw [zD4]; exact row_len HKs.out HKl.out
      obtain ⟨N4, EN4, HN4, zN4⟩ := cat_to HN3 (row ks)
      rw [HD4.out] at EN4
      rw [← zD4] at zN4
      have wN4 : N4.size ≤ N3.size + D4.size := Nat.le_of_eq zN4
      have qN4 : ¬ 9223372036854775807 < N3.size + D4.size := by omega
      have rN4 : ¬ 9223372036854775807 < M.size + D0.size + D1.size + D2.size + D3.size + D4.size := by omega
      clear zD0 zD1 zD2 zD3 zD4 zN0 zN1 zN2 zN3 zN4
      clear hT
      have Hhs := Lib.hid hs
      clear hs
      go_upto_region 6 with (fail)
      generalize hW : World.alloc wr _ = wb at *
      have hsb : Step No wr wb := by rw [← hW]; exact (Step.refl No wr).alloc _
      have HBx := Lib.hid (show wb.heap[wr.heap.size]? = some (.cells #[.int .i64 id, .int .i64 kd, .int .i64 fr, .int .i64 up, .slice Ak ks.length ck] 128 (0, 0)) by rw [← hW]; exact blk_new wr _)
      have Hkids := Lib.hid (ints_to hkv hsb)
      have HSb := Lib.hid (Hhs.out.trans hsb (fun _ f _ => f))
      have HX : Hid (∀ w', Step No wb w' → w'.cell? ⟨wr.heap.size, 0, none⟩ = some (.int .i64 id) ∧ w'.cell? ⟨wr.heap.size, 1, none⟩ = some (.int .i64 kd) ∧ w'.cell? ⟨wr.heap.size, 2, none⟩ = some (.int .i64 fr) ∧ w'.cell? ⟨wr.heap.size, 3, none⟩ = some (.int .i64 up) ∧ w'.cell? ⟨wr.heap.size, 4, none⟩ = some (.slice Ak ks.length ck)) := Lib.hid fun w' hs => by
        have hb := hs.blk HBx.out (fun f => f)
        exact ⟨blk_cell hb 0, blk_cell hb 1, blk_cell hb 2, blk_cell hb 3, blk_cell hb 4⟩
      clear hW hsb hkv c0 c1 c2 c3 c4 e0 e1 e2
      have H2 : Hid (Step No wb wb.drew) := Lib.hid ((Step.refl No wb).drew)
      go_region_held3 (fun w' => w'.cell? ⟨wr.heap.size, 0, none⟩ = some (.int .i64 id) ∧ w'.cell? ⟨wr.heap.size, 1, none⟩ = some (.int .i64 kd) ∧ w'.cell? ⟨wr.heap.size, 2, none⟩ = some (.int .i64 fr) ∧ w'.cell? ⟨wr.heap.size, 3, none⟩ = some (.int .i64 up) ∧ w'.cell? ⟨wr.heap.size, 4, none⟩ = some (.slice Ak ks.length ck)) (first | exact HX.out _ H7.out | exact HX.out _ H6.out | exact HX.out _ H5.out | exact HX.out _ H4.out | exact HX.out _ H3.out | exact HX.out _ H2.out) (first | (go_at_call 42; first | (refine (num_ref id HI.out.1 (by have := HI.out.2; omega) _).mono ?_; rintro e v0 ⟨rfl, hv⟩; rw [HD0.out]; have H3 := Lib.hid (Step.trans (F := No) (G := No) (show Step No wb _ from by first | exact H2.out | exact Step.refl _ _) hv (fun _ f _ => f)); clear hv) | (refine (num_ref kd HK.out.1 (by have := HK.out.2; omega) _).mono ?_; rintro e v1 ⟨rfl, hv⟩; rw [HD1.out]; have H4 := Lib.hid (Step.trans (F := No) (G := No) (show Step No wb _ from by exact H3.out) hv (fun _ f _ => f)); clear hv) | (refine (num_ref fr HF.out.1 (by have := HF.out.2; omega) _).mono ?_; rintro e v2 ⟨rfl, hv⟩; rw [HD2.out]; have H5 := Lib.hid (Step.trans (F := No) (G := No) (show Step No wb _ from by exact H4.out) hv (fun _ f _ => f)); clear hv) | (refine (num_ref up HU.out.1 (by have := HU.out.2; omega) _).mono ?_; rintro e v3 ⟨rfl, hv⟩; rw [HD3.out]; have H6 := Lib.hid (Step.trans (F := No) (G := No) (show Step No wb _ from by exact H5.out) hv (fun _ f _ => f)); clear hv)) | (go_at_call 87; (refine (nums_ref _ ks (.slice Ak ks.length ck) (ints_to Hkids.out (H6.out)) HKs.out.2 (by have := HKl.out; omega)).mono ?_; rintro e v4 ⟨rfl, hv⟩; rw [HD4.out]; have H7 := Lib.hid (Step.trans (F := No) (G := No) (show Step No wb _ from by exact H6.out) hv (fun _ f _ => f)); clear hv)))
      go_wp2
      go_roundw
      case rel => exact ⟨k + 1, N4, hlt, rfl, rfl, Lib.hid (by rw [HN4.out, HT.out]; simp), by omega, HSb.out.trans H7.out (fun _ f _ => f)⟩
      case measure => simp [RowKit.intOf]; omega
    · obtain rfl : k = ns.length := by omega
      rw [List.take_length] at HM
      have Hhs := Lib.hid hs
      clear hs
      go_wp2
      go_ret
      exact ⟨by rw [HM.out]; rfl, HS1.out.trans Hhs.out (fun _ f _ => f)⟩
end Go.Proofs.YtjeamfoicpgkhaaGreatDoor.RefEnc

/- The reference's packed texts: entries. -/
namespace Go.Proofs.YtjeamfoicpgkhaaGreatDoor.RefEnc
open Go.RowKit Go.Lib Go.Proofs.YtjeamfoicpgkhaaGreatDoor.Mem Go.Proofs.YtjeamfoicpgkhaaGreatDoor.Read Go.Proofs.YtjeamfoicpgkhaaGreatDoor.Tree Go.Proofs.YtjeamfoicpgkhaaGreatDoor.Dec Go.Proofs.YtjeamfoicpgkhaaGreatDoor.Take Go.Proofs.YtjeamfoicpgkhaaGreatDoor.Data Go.Proofs.YtjeamfoicpgkhaaGreatDoor.Pk Go.Proofs.YtjeamfoicpgkhaaGreatDoor.May Go.Proofs.YtjeamfoicpgkhaaGreatDoor.MayLen Go.Proofs.YtjeamfoicpgkhaaGreatDoor.MsgR Go.Proofs.YtjeamfoicpgkhaaGreatDoor.CompR Go.Proofs.YtjeamfoicpgkhaaGreatDoor.Cat
open Go.Proofs.YtjeamfoicpgkhaaGreatDoor.RefDec (num_ref str_ref)
set_option linter.unusedVariables false
set_option linter.unusedSimpArgs false
theorem step_kids {s : StepD} (h : stepB s = true) : s.kids.length ≤ 2048 := by
  obtain ⟨-, g⟩ := of_decide_eq_true h
  rcases g with ⟨-, g, -⟩ | ⟨-, g, -⟩ | ⟨-, ⟨g, -⟩, -⟩ | ⟨-, g, -⟩ <;> omega
theorem entry_parts {e : EntryD} (h : entryB e = true) : editB e.edit = true ∧ e.delta.length ≤ 8192 ∧ ∀ s ∈ e.delta, stepB s = true := by
  simp only [entryB, Bool.and_eq_true, decide_eq_true_eq, List.all_eq_true] at h
  exact ⟨h.1.1.2, h.1.2, h.2⟩
theorem edit_parts {cs : List CompD} (h : editB cs = true) : (∀ c ∈ cs, rawB c = true) ∧ cs.length ≤ 4096 := by
  simp only [editB, Bool.and_eq_true, decide_eq_true_eq] at h
  exact ⟨comps_raw h.1.2, h.1.1⟩
set_option maxHeartbeats 16000000 in
set_option maxRecDepth 100000 in
theorem entry_ref (w : World) (e : EntryD) (ev dv : Value) (hE : CompsR w e.edit ev) (h : StepsR w e.delta dv) (hb : entryB e = true) : Calls Tryz.prog 44 #[aggE e ev dv] w fun x w' => x = .returned (.string ⟨(entryS e).toArray⟩) ∧ Step No w w' := by
  obtain ⟨A, c, rfl, -, -⟩ := sl_len h
  obtain ⟨Ae, ce, rfl, -, -⟩ := comps_len hE
  have hwf := entry_wf hb
  obtain ⟨b1, b2, b3⟩ := entry_parts hb
  obtain ⟨b4, b5⟩ := edit_parts b1
  obtain ⟨cl, sq, ed, de⟩ := e
  obtain ⟨hw1, hw2, hw3, hw4, hw5⟩ := hwf
  simp only at hw1 hw2 hw3 hw4 hw5 b1 b2 b3 b4 b5 hE h
  have HW1 := Lib.hid hw1
  have HW2 := Lib.hid hw2
  have HW3 := Lib.hid hw4
  have HW5 := Lib.hid hw5
  have HEd := Lib.hid b1
  have HB3 := Lib.hid b3
  have HRaw := Lib.hid b4
  have HEl := Lib.hid b5
  have HA := Lib.hid h
  have HE := Lib.hid hE
  obtain ⟨D0, HD0, zD0⟩ := list_str (num cl)
  have yD0 : D0.size ≤ 10 := by rw [zD0]; exact num_len HW1.out
  have HHD0 : Hid (D0 = ⟨(num cl).toArray⟩) := Lib.hid HD0.out.symm
  obtain ⟨D1, HD1, zD1⟩ := list_str (num sq)
  have yD1 : D1.size ≤ 10 := by rw [zD1]; exact num_len HW2.out
  obtain ⟨N1, EN1, HN1, zN1⟩ := cat_to HHD0 (num sq)
  rw [HD1.out] at EN1
  rw [← zD1] at zN1
  have wN1 : N1.size ≤ D0.size + D1.size := Nat.le_of_eq zN1
  have qN1 : ¬ 9223372036854775807 < D0.size + D1.size := by omega
  obtain ⟨D2, HD2, zD2⟩ := list_str (editS ed)
  have yD2 : D2.size ≤ 20480010 := by rw [zD2]; exact edit_len HEd.out
  obtain ⟨N2, EN2, HN2, zN2⟩ := cat_to HN1 (editS ed)
  rw [HD2.out] at EN2
  rw [← zD2] at zN2
  have wN2 : N2.size ≤ N1.size + D2.size := Nat.le_of_eq zN2
  have qN2 : ¬ 9223372036854775807 < N1.size + D2.size := by omega
  have rN2 : ¬ 9223372036854775807 < D0.size + D1.size + D2.size := by omega
  obtain ⟨D3, HD3, zD3⟩ := list_str (num (de.length : Int))
  have yD3 : D3.size ≤ 10 := by rw [zD3]; exact num_len HW3.out
  obtain ⟨N3, EN3, HN3, zN3⟩ := cat_to HN2 (num (de.length : Int))
  rw [HD3.out] at EN3
  rw [← zD3] at zN3
  have wN3 : N3.size ≤ N2.size + D3.size := Nat.le_of_eq zN3
  have qN3 : ¬ 9223372036854775807 < N2.size + D3.size := by omega
  have rN3 : ¬ 9223372036854775807 < D0.size + D1.size + D2.size + D3.size := by omega
  clear zD0 zD1 zD2 zD3 zN1 zN2 zN3
  have yM : N3.size ≤ 20480040 := by omega
  clear hw1 hw2 hw3 hw4 hw5 b1 b3 b4 b5 hE h hb
  unfold aggE
  simp only
  go_enter Tryz.func44, Tryz.ntmps44
  go_upto_region 1 with (fail)
  generalize hW : World.alloc w _ = w1 at *
  have HB := Lib.hid (show w1.heap[w.heap.size]? = some (.cells #[.int .i64 cl, .int .i64 sq, .slice Ae ed.length ce, .slice A de.length c] 54 (0, 0)) by rw [← hW]; exact blk_new w _)
  have HS1 : Hid (Step No w w1) := Lib.hid (by rw [← hW]; exact (Step.refl No w).alloc _)
  have HC : Hid (∀ w', Step No w1 w' → w'.cell? ⟨w.heap.size, 0, none⟩ = some (.int .i64 cl) ∧ w'.cell? ⟨w.heap.size, 1, none⟩ = some (.int .i64 sq) ∧ w'.cell? ⟨w.heap.size, 2, none⟩ = some (.slice Ae ed.length ce) ∧ w'.cell? ⟨w.heap.size, 3, none⟩ = some (.slice A de.length c)) := Lib.hid fun w' hs => by
    have hb := hs.blk HB.out (fun f => f)
    exact ⟨blk_cell hb 0, blk_cell hb 1, blk_cell hb 2, blk_cell hb 3⟩
  clear hW
  go_cut [3] (fun s wx => s = .string N3 ∧ Step No w1 wx)
  case first =>
    have H2 : Hid (Step No w1 w1.drew) := Lib.hid ((Step.refl No w1).drew)
    go_region_held3 (fun w' => w'.cell? ⟨w.heap.size, 0, none⟩ = some (.int .i64 cl) ∧ w'.cell? ⟨w.heap.size, 1, none⟩ = some (.int .i64 sq) ∧ w'.cell? ⟨w.heap.size, 2, none⟩ = some (.slice Ae ed.length ce) ∧ w'.cell? ⟨w.heap.size, 3, none⟩ = some (.slice A de.length c)) (first | exact HC.out _ H6.out | exact HC.out _ H5.out | exact HC.out _ H4.out | exact HC.out _ H3.out | exact HC.out _ H2.out) (first | (go_at_call 42; first | (refine (num_ref cl HW1.out.1 (by have := HW1.out.2; omega) _).mono ?_; rintro e v0 ⟨rfl, hv⟩; rw [HD0.out]; have H3 := Lib.hid (Step.trans (F := No) (G := No) (show Step No w1 _ from by first | exact H2.out | exact Step.refl _ _) hv (fun _ f _ => f)); clear hv) | (refine (num_ref sq HW2.out.1 (by have := HW2.out.2; omega) _).mono ?_; rintro e v1 ⟨rfl, hv⟩; rw [HD1.out]; have H4 := Lib.hid (Step.trans (F := No) (G := No) (show Step No w1 _ from by exact H3.out) hv (fun _ f _ => f)); clear hv) | (refine (num_ref (de.length : Int) HW3.out.1 (by have := HW3.out.2; omega) _).mono ?_; rintro e v3 ⟨rfl, hv⟩; rw [HD3.out]; have H6 := Lib.hid (Step.trans (F := No) (G := No) (show Step No w1 _ from by exact H5.out) hv (fun _ f _ => f)); clear hv)) | (go_at_call 43; (refine (comps_ref _ ed (.slice Ae ed.length ce) (HE.out.to (HS1.out.trans H4.out (fun _ f _ => f))) HRaw.out HEl.out).mono ?_; rintro e v2 ⟨rfl, hv⟩; rw [HD2.out]; have H5 := Lib.hid (Step.trans (F := No) (G := No) (show Step No w1 _ from by exact H4.out) hv (fun _ f _ => f)); clear hv)))
    go_wp2
    go_meet
    exact ⟨rfl, H6.out⟩
  case rest =>
  obtain ⟨rfl, hs2⟩ := hcut
  have HS2 := Lib.hid hs2
  clear hs2
  go_wp2
  go_loopw [4, 3] (fun i s wr => ∃ (k : Nat) (M : ByteArray), k ≤ de.length ∧ i = .int .i64 k ∧ s = .string M ∧ Hid (M = ⟨(nums [cl, sq] ++ editS ed ++ num de.length ++ (de.take k).flatMap stepS).toArray⟩) ∧ M.size ≤ 20480040 + 20540 * k ∧ Step No w1 wr) (fun i _ _ => de.length - (RowKit.intOf i).toNat)
  case atStart => exact ⟨0, N3, Nat.zero_le _, rfl, rfl, Lib.hid (by rw [HN3.out]; simp [nums]), by omega, HS2.out⟩
  case round =>
    obtain ⟨k, M, hkn, rfl, rfl, HM, hM, hs⟩ := hrel
    obtain ⟨e0, e1, e2, e3⟩ := HC.out wr hs
    by_cases hlt : k < de.length
    · obtain ⟨ad, kv, rfl, hkv, c0, c1, c2, c3, c4, c5⟩ := steps_cells (HA.out.to (HS1.out.trans hs (fun _ f _ => f))) k hlt
      have hi0 : (0 : Int) ≤ k := by omega
      have hi1 : (k : Int) < de.length := by omega
      have hwk := HW5.out _ (List.getElem_mem hlt)
      have HKl := Lib.hid (step_kids (HB3.out _ (List.getElem_mem hlt)))
      have HT := Lib.hid (flat_next stepS de k hlt)
      generalize de[k] = x at *
      obtain ⟨kd, id, no, fr, up, ks⟩ := x
      obtain ⟨Ak, ck, rfl, -, -⟩ := sl_len hkv
      obtain ⟨g1, g2, g3, g4, g5, g6⟩ := hwk
      simp only at c0 c1 c2 c3 c4 c5 hkv g1 g2 g3 g4 g5 g6 HKl
      have HI := Lib.hid g1
      have HK := Lib.hid g2
      have HF := Lib.hid g3
      have HU := Lib.hid g4
      have HV := Lib.hid g5
      have HKs := Lib.hid g6
      have hT := HT.out
      rw [show stepS ⟨kd, id, no, fr, up, ks⟩ = num kd ++ num id ++ num no ++ num fr ++ num up ++ row ks by simp [stepS, nums]] at hT
      clear HT g1 g2 g3 g4 g5 g6
      have HT := Lib.hid hT
      obtain ⟨D0, HD0, zD0⟩ := list_str (num kd)
      have yD0 : D0.size ≤ 10 := by rw [zD0]; exact num_len HI.out
      obtain ⟨N0, EN0, HN0, zN0⟩ := cat_to HM (num kd)
      rw [HD0.out] at EN0
      rw [← zD0] at zN0
      have wN0 : N0.size ≤ M.size + D0.size := Nat.le_of_eq zN0
      have qN0 : ¬ 9223372036854775807 < M.size + D0.size := by omega
      obtain ⟨D1, HD1, zD1⟩ := list_str (num id)
      have yD1 : D1.size ≤ 10 := by rw [zD1]; exact num_len HK.out
      obtain ⟨N1, EN1, HN1, zN1⟩ := cat_to HN0 (num id)
      rw [HD1.out] at EN1
      rw [← zD1] at zN1
      have wN1 : N1.size ≤ N0.size + D1.size := Nat.le_of_eq zN1
      have qN1 : ¬ 9223372036854775807 < N0.size + D1.size := by omega
      have rN1 : ¬ 9223372036854775807 < M.size + D0.size + D1.size := by omega
      obtain ⟨D2, HD2, zD2⟩ := list_str (num no)
      have yD2 : D2.size ≤ 10 := by rw [zD2]; exact num_len HF.out
      obtain ⟨N2, EN2, HN2, zN2⟩ := cat_to HN1 (num no)
      rw [HD2.out] at EN2
      rw [← zD2] at zN2
      have wN2 : N2.size ≤ N1.size + D2.size := Nat.le_of_eq zN2
      have qN2 : ¬ 9223372036854775807 < N1.size + D2.size := by omega
      have rN2 : ¬ 9223372036854775807 < M.size + D0.size + D1.size + D2.size := by omega
      obtain ⟨D3, HD3, zD3⟩ := list_str (num fr)
      have yD3 : D3.size ≤ 10 := by rw [zD3]; exact num_len HU.out
      obtain ⟨N3, EN3, HN3, zN3⟩ := cat_to HN2 (num fr)
      rw [HD3.out] at EN3
      rw [← zD3] at zN3
      have wN3 : N3.size ≤ N2.size + D3.size := Nat.le_of_eq zN3
      have qN3 : ¬ 9223372036854775807 < N2.size + D3.size := by omega
      have rN3 : ¬ 9223372036854775807 < M.size + D0.size + D1.size + D2.size + D3.size := by omega
      obtain ⟨D4, HD4, zD4⟩ := list_str (num up)
      have yD4 : D4.size ≤ 10 := by rw [zD4]; exact num_len HV.out
      obtain ⟨N4, EN4, HN4, zN4⟩ := cat_to HN3 (num up)
      rw [HD4.out] at EN4
      rw [← zD4] at zN4
      have wN4 : N4.size ≤ N3.size + D4.size := Nat.le_of_eq zN4
      have qN4 : ¬ 9223372036854775807 < N3.size + D4.size := by omega
      have rN4 : ¬ 9223372036854775807 < M.size + D0.size + D1.size + D2.size + D3.size + D4.size := by omega
      obtain ⟨D5, HD5, zD5⟩ := list_str (row ks)
      have yD5 : D5.size ≤ 20490 := by rw [zD5]; exact row_len HKs.out HKl.out
      obtain ⟨N5, EN5, HN5, zN5⟩ := cat_to HN4 (row ks)
      rw [HD5.out] at EN5
      rw [← zD5] at zN5
      have wN5 : N5.size ≤ N4.size + D5.size := Nat.le_of_eq zN5
      have qN5 : ¬ 9223372036854775807 < N4.size + D5.size := by omega
      have rN5 : ¬ 9223372036854775807 < M.size + D0.size + D1.size + D2.size + D3.size + D4.size + D5.size := by omega
      clear zD0 zD1 zD2 zD3 zD4 zD5 zN0 zN1 zN2 zN3 zN4 zN5
      clear hT
      have Hhs := Lib.hid hs
      clear hs
      go_upto_region 6 with (fail)
      generalize hW : World.alloc wr _ = wb at *
      have hsb : Step No wr wb := by rw [← hW]; exact (Step.refl No wr).alloc _
      have HBx := Lib.hid (show wb.heap[wr.heap.size]? = some (.cells #[.int .i64 kd, .int .i64 id, .int .i64 no, .int .i64 fr, .int .i64 up, .slice Ak ks.length ck] 51 (0, 0)) by rw [← hW]; exact blk_new wr _)
      have Hkids := Lib.hid (ints_to hkv hsb)
      have HSb := Lib.hid (Hhs.out.trans hsb (fun _ f _ => f))
      have HX : Hid (∀ w', Step No wb w' → w'.cell? ⟨wr.heap.size, 0, none⟩ = some (.int .i64 kd) ∧ w'.cell? ⟨wr.heap.size, 1, none⟩ = some (.int .i64 id) ∧ w'.cell? ⟨wr.heap.size, 2, none⟩ = some (.int .i64 no) ∧ w'.cell? ⟨wr.heap.size, 3, none⟩ = some (.int .i64 fr) ∧ w'.cell? ⟨wr.heap.size, 4, none⟩ = some (.int .i64 up) ∧ w'.cell? ⟨wr.heap.size, 5, none⟩ = some (.slice Ak ks.length ck)) := Lib.hid fun w' hs => by
        have hb := hs.blk HBx.out (fun f => f)
        exact ⟨blk_cell hb 0, blk_cell hb 1, blk_cell hb 2, blk_cell hb 3, blk_cell hb 4, blk_cell hb 5⟩
      clear hW hsb hkv c0 c1 c2 c3 c4 c5 e0 e1 e2 e3
      have H2 : Hid (Step No wb wb.drew) := Lib.hid ((Step.refl No wb).drew)
      go_region_held3 (fun w' => w'.cell? ⟨wr.heap.size, 0, none⟩ = some (.int .i64 kd) ∧ w'.cell? ⟨wr.heap.size, 1, none⟩ = some (.int .i64 id) ∧ w'.cell? ⟨wr.heap.size, 2, none⟩ = some (.int .i64 no) ∧ w'.cell? ⟨wr.heap.size, 3, none⟩ = some (.int .i64 fr) ∧ w'.cell? ⟨wr.heap.size, 4, none⟩ = some (.int .i64 up) ∧ w'.cell? ⟨wr.heap.size, 5, none⟩ = some (.slice Ak ks.length ck)) (first | exact HX.out _ H8.out | exact HX.out _ H7.out | exact HX.out _ H6.out | exact HX.out _ H5.out | exact HX.out _ H4.out | exact HX.out _ H3.out | exact HX.out _ H2.out) (first | (go_at_call 42; first | (refine (num_ref kd HI.out.1 (by have := HI.out.2; omega) _).mono ?_; rintro e v0 ⟨rfl, hv⟩; rw [HD0.out]; have H3 := Lib.hid (Step.trans (F := No) (G := No) (show Step No wb _ from by first | exact H2.out | exact Step.refl _ _) hv (fun _ f _ => f)); clear hv) | (refine (num_ref id HK.out.1 (by have := HK.out.2; omega) _).mono ?_; rintro e v1 ⟨rfl, hv⟩; rw [HD1.out]; have H4 := Lib.hid (Step.trans (F := No) (G := No) (show Step No wb _ from by exact H3.out) hv (fun _ f _ => f)); clear hv) | (refine (num_ref no HF.out.1 (by have := HF.out.2; omega) _).mono ?_; rintro e v2 ⟨rfl, hv⟩; rw [HD2.out]; have H5 := Lib.hid (Step.trans (F := No) (G := No) (show Step No wb _ from by exact H4.out) hv (fun _ f _ => f)); clear hv) | (refine (num_ref fr HU.out.1 (by have := HU.out.2; omega) _).mono ?_; rintro e v3 ⟨rfl, hv⟩; rw [HD3.out]; have H6 := Lib.hid (Step.trans (F := No) (G := No) (show Step No wb _ from by exact H5.out) hv (fun _ f _ => f)); clear hv) | (refine (num_ref up HV.out.1 (by have := HV.out.2; omega) _).mono ?_; rintro e v4 ⟨rfl, hv⟩; rw [HD4.out]; have H7 := Lib.hid (Step.trans (F := No) (G := No) (show Step No wb _ from by exact H6.out) hv (fun _ f _ => f)); clear hv)) | (go_at_call 87; (refine (nums_ref _ ks (.slice Ak ks.length ck) (ints_to Hkids.out H7.out) HKs.out.2 (by have := HKl.out; omega)).mono ?_; rintro e v5 ⟨rfl, hv⟩; rw [HD5.out]; have H8 := Lib.hid (Step.trans (F := No) (G := No) (show Step No wb _ from by exact H7.out) hv (fun _ f _ => f)); clear hv)))
      go_wp2
      go_roundw
      case rel => exact ⟨k + 1, N5, hlt, rfl, rfl, Lib.hid (by rw [HN5.out, HT.out]; simp), by omega, HSb.out.trans H8.out (fun _ f _ => f)⟩
      case measure => simp [RowKit.intOf]; omega
    · obtain rfl : k = de.length := by omega
      rw [List.take_length] at HM
      have Hhs := Lib.hid hs
      clear hs
      go_wp2
      go_ret
      exact ⟨by rw [HM.out]; rfl, HS1.out.trans Hhs.out (fun _ f _ => f)⟩
end Go.Proofs.YtjeamfoicpgkhaaGreatDoor.RefEnc
