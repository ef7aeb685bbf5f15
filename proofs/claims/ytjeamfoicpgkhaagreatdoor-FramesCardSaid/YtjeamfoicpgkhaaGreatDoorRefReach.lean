/- How many nodes stand at and below one: the reference's way. -/
import Derived.Test.YtjeamfoicpgkhaaGreatDoorRefFind
import Derived.Test.YtjeamfoicpgkhaaGreatDoorSameC
namespace Go.Proofs.YtjeamfoicpgkhaaGreatDoor.RefReach
open Go.RowKit Go.Lib Go.Proofs.YtjeamfoicpgkhaaGreatDoor.Mem Go.Proofs.YtjeamfoicpgkhaaGreatDoor.Read Go.Proofs.YtjeamfoicpgkhaaGreatDoor.Tree Go.Proofs.YtjeamfoicpgkhaaGreatDoor.Data Go.Proofs.YtjeamfoicpgkhaaGreatDoor.CompR Go.Proofs.YtjeamfoicpgkhaaGreatDoor.MsgR Go.Proofs.YtjeamfoicpgkhaaGreatDoor.May Go.Proofs.YtjeamfoicpgkhaaGreatDoor.TreeEq
open Go.Proofs.YtjeamfoicpgkhaaGreatDoor.RefFind (posI Find_ref)
open Go.Proofs.YtjeamfoicpgkhaaGreatDoor.Same (ints_cell)
set_option linter.unusedVariables false
set_option linter.unusedSimpArgs false
def sumK (xs : List NodeD) (f : Nat) (ks : List Int) : Nat := ((ks.filterMap (posOf xs)).map (reachF xs f)).sum
theorem reach_eq {xs : List NodeD} {v : Nat} {x : NodeD} (h : xs[v]? = some x) (f : Nat) : reachF xs (f + 1) v = 1 + sumK xs f x.kids := by
  unfold reachF sumK kat
  rw [h]
  rfl
theorem sumK_app (xs : List NodeD) (f : Nat) (a b : List Int) : sumK xs f (a ++ b) = sumK xs f a + sumK xs f b := by
  unfold sumK
  rw [List.filterMap_append, List.map_append, List.sum_append]
theorem sumK_snoc {xs : List NodeD} {f j k : Nat} {ks : List Int} (hj : j < ks.length) (hp : posOf xs ks[j] = some k) : sumK xs f (ks.take (j + 1)) = sumK xs f (ks.take j) + reachF xs f k := by
  rw [List.take_succ_eq_append_getElem hj, sumK_app]
  congr 1
  unfold sumK
  rw [List.filterMap_cons, hp]
  simp
theorem sumK_le (xs : List NodeD) (f j : Nat) (ks : List Int) : sumK xs f (ks.take j) ≤ sumK xs f ks := by
  have := sumK_app xs f (ks.take j) (ks.drop j)
  rw [List.take_append_drop] at this
  omega
theorem sum_one (g : Nat → Nat) (h : Nat → List Nat) : ∀ l : List Nat, (l.map fun v => 1 + ((h v).map g).sum).sum = l.length + ((l.flatMap h).map g).sum
  | [] => rfl
  | a :: l => by
    have := sum_one g h l
    rw [List.map_cons, List.sum_cons, this, List.flatMap_cons, List.map_append, List.sum_append, List.length_cons]
    omega
theorem sum_zero : ∀ l : List Nat, (l.map fun _ => 0).sum = 0
  | [] => rfl
  | a :: l => by rw [List.map_cons, List.sum_cons, sum_zero l]
theorem kat_lt {xs : List NodeD} {v k : Nat} (h : k ∈ kat xs v) : k < xs.length := by
  unfold kat at h
  split at h
  · simp at h
  · unfold kpos at h
    rw [List.mem_filterMap] at h
    obtain ⟨id, _, hp⟩ := h
    obtain ⟨y, hy, _⟩ := posOf_some hp
    exact (List.getElem?_eq_some_iff.1 hy).1
theorem reach_sum {xs : List NodeD} (hn : (xs.flatMap (kpos xs)).Nodup) : ∀ (f : Nat) (l : List Nat), l.Nodup → (∀ v ∈ l, v < xs.length) → (l.map (reachF xs f)).sum ≤ f * xs.length
  | 0, l, _, _ => by
    have : l.map (reachF xs 0) = l.map fun _ => 0 := List.map_congr_left fun v _ => rfl
    rw [this, sum_zero]
    omega
  | f + 1, l, hl, hlt => by
    have e : l.map (reachF xs (f + 1)) = l.map fun v => 1 + ((kat xs v).map (reachF xs f)).sum := List.map_congr_left fun v _ => rfl
    rw [e, sum_one]
    have h1 := nodup_le hl hlt
    have h2 : (l.flatMap (kat xs)).Nodup := List.nodup_iff_count.2 fun k => by
      have e1 : (l.flatMap (kat xs)).count k = (((List.range xs.length).filter fun k => decide (k ∈ l)).flatMap (kat xs)).count k := (List.Perm.flatMap_right (kat xs) (nodup_part hl hlt)).count_eq k
      have e2 := sub_count (kat xs) (List.filter_sublist (p := fun k => decide (k ∈ l)) (l := List.range xs.length)) k
      have e3 := List.nodup_iff_count.1 hn k
      rw [flat_range] at e2
      omega
    have h3 := reach_sum hn f _ h2 (fun v hv => by
      obtain ⟨u, _, hu⟩ := List.mem_flatMap.1 hv
      exact kat_lt hu)
    rw [Nat.succ_mul]
    omega
theorem reach_le {xs : List NodeD} (hn : (xs.flatMap (kpos xs)).Nodup) (f v : Nat) (hv : v < xs.length) : reachF xs f v ≤ f * xs.length := by
  have := reach_sum hn f [v] (by simp) (by simpa using hv)
  simpa using this
def Found (xs : List NodeD) : Prop := ∀ x ∈ xs, ∀ id ∈ x.kids, ∃ k, posOf xs id = some k
def ReachAt (t : TreeD) (nv : Value) (f : Nat) : Prop := ∀ (w : World) (v : Nat) (d : Int), NodesR w t.nodes nv → v < t.nodes.length → d = ((t.nodes.length + 1 - f : Nat) : Int) → Calls Tryz.prog 114 #[aggT t nv, .int .i64 v, .int .i64 d] w fun e w' => e = .returned (.int .i64 (reachF t.nodes f v)) ∧ Step No w w'
set_option maxHeartbeats 4000000 in
set_option maxRecDepth 100000 in
theorem reach_ref (t : TreeD) (nv : Value) (hf : Found t.nodes) (hn : (t.nodes.flatMap (kpos t.nodes)).Nodup) (hk : t.nodes.length ≤ 2048) : ∀ f : Nat, f ≤ t.nodes.length + 1 → ReachAt t nv f
  | 0, hle => by
    intro w v d h hv hd
    obtain ⟨A, c, rfl, hc1, hc2⟩ := sl_len h
    obtain ⟨rt, nx, ns⟩ := t
    simp only at *
    have hd1 : (ns.length : Int) < d := by omega
    have hR : reachF ns 0 v = 0 := rfl
    rw [hR]
    have HA := Lib.hid h
    clear h hd hR hf hn
    unfold aggT
    simp only
    go_enter Tryz.func114, Tryz.ntmps114
    go_wp2
    go_ret
    exact ⟨rfl, (by repeat' (first | exact Step.refl _ _ | with_reducible assumption | refine Step.drew ?_ | refine Step.drewN ?_ _ | refine Step.alloc ?_ _))⟩
  | f + 1, hle => by
    intro w v d h hv hd
    have IH := Lib.hid (reach_ref t nv hf hn hk f (by omega))
    obtain ⟨A, c, rfl, hc1, hc2⟩ := sl_len h
    unfold maxLen at hc2
    obtain ⟨rt, nx, ns⟩ := t
    simp only at *
    have HF := Lib.hid hf
    have HB := Lib.hid (reach_le hn (f + 1) v hv)
    have hd1 : ¬ (ns.length : Int) < d := by omega
    have HD : Hid (d + 1 = ((ns.length + 1 - f : Nat) : Int)) := Lib.hid (by omega)
    have hdw : IntKind.i64.wrap (d + 1) = d + 1 := IntWalk.i64_in _ ⟨by omega, by omega⟩
    have HM : Hid ((f + 1) * ns.length ≤ 2049 * 2048) := Lib.hid (Nat.mul_le_mul (by omega) hk)
    have HA := Lib.hid h
    clear h hd hf hn
    unfold aggT
    simp only
    go_enter Tryz.func114, Tryz.ntmps114
    have hv0 : (0 : Int) ≤ v := by omega
    have hv1 : (v : Int) < ns.length := by omega
    go_upto_region 1 with (fail)
    generalize hW : World.alloc w _ = w1 at *
    have HB1 := Lib.hid (show w1.heap[w.heap.size]? = some (.cells #[.int .i64 rt, .int .i64 nx, .slice A ns.length c] 26 (0, 0)) by rw [← hW]; exact blk_new w _)
    have HS1 : Hid (Step No w w1) := Lib.hid (by rw [← hW]; exact (Step.refl No w).alloc _)
    have e2 : w1.cell? ⟨w.heap.size, 2, none⟩ = some (.slice A ns.length c) := by rw [blk_cell HB1.out]; rfl
    clear hW
    obtain ⟨ad, kv, rfl, hkv, -, -, -, -, c4⟩ := nodes_cells (HA.out.to HS1.out) v hv
    obtain ⟨Ak, ck, rfl, hck0, hck⟩ := sl_len hkv
    unfold maxLen at hck
    have HX : Hid (ns[v]? = some ns[v]) := Lib.hid (List.getElem?_eq_getElem hv)
    have HIn := Lib.hid (List.getElem_mem hv)
    generalize ns[v] = x at *
    have HQ := Lib.hid (reach_eq HX.out f)
    have HKv := Lib.hid hkv
    have HC4 := Lib.hid c4
    clear hkv
    go_wp2
    clear c4 e2
    go_loopw [7, 8] (fun q i wr => ∃ j : Nat, j ≤ x.kids.length ∧ q = .int .i64 ((1 + sumK ns f (x.kids.take j) : Nat) : Int) ∧ i = .int .i64 j ∧ Step No w1 wr) (fun _ i _ => x.kids.length - (RowKit.intOf i).toNat)
    case atStart => exact ⟨0, Nat.zero_le _, rfl, rfl, Step.refl _ _⟩
    case round =>
      obtain ⟨j, hj, rfl, rfl, hs⟩ := hrel
      have HE : Hid (∀ w', Step No wr w' → w'.cell? ⟨w.heap.size, 0, none⟩ = some (.int .i64 rt) ∧ w'.cell? ⟨w.heap.size, 1, none⟩ = some (.int .i64 nx) ∧ w'.cell? ⟨w.heap.size, 2, none⟩ = some (.slice (some ad) ns.length c) ∧ w'.cell? ⟨(ad.add (v * 5)).block, (ad.add (v * 5)).off + 4, none⟩ = some (.slice Ak x.kids.length ck)) := Lib.hid fun w' hst =>
        have hb := (hs.trans hst (fun _ f _ => f)).blk HB1.out (fun f => f)
        ⟨blk_cell hb 0, blk_cell hb 1, blk_cell hb 2, (hs.trans hst (fun _ f _ => f)).cell HC4.out (fun f => f)⟩
      obtain ⟨e0, e1, e2, c4⟩ := HE.out wr (Step.refl _ _)
      by_cases hlt : j < x.kids.length
      · have hj0 : (0 : Int) ≤ j := by omega
        have hj1 : (j : Int) < x.kids.length := by omega
        obtain ⟨k, hp⟩ := HF.out x HIn.out x.kids[j] (List.getElem_mem hlt)
        obtain ⟨y, hy, -⟩ := posOf_some hp
        have hkl : k < ns.length := (List.getElem?_eq_some_iff.1 hy).1
        have HSn := Lib.hid (sumK_snoc (f := f) hlt hp)
        have hle := sumK_le ns f (j + 1) x.kids
        rw [HSn.out] at hle
        have HP : Hid (posI ns x.kids[j] = (k : Int)) := Lib.hid (by unfold posI; rw [hp])
        obtain ⟨ad2, rfl, k0⟩ := ints_cell (ints_to HKv.out hs) j hlt
        have HKI : Hid (∀ w', Step No wr w' → w'.cell? (ad2.add j) = some (.int .i64 x.kids[j])) := Lib.hid fun w' hst => hst.cell k0 (fun f => f)
        generalize x.kids[j] = a at *
        have HNx : Hid (∀ R S : Nat, sumK ns f (x.kids.take j) = S → reachF ns f k = R → 1 + sumK ns f (x.kids.take (j + 1)) = 1 + S + R ∧ 1 + S + R ≤ 4196352) := Lib.hid fun R S h1 h2 => by
          have := HSn.out
          have := HB.out
          have := HM.out
          have := HQ.out
          omega
        have IHk := Lib.hid (fun w' h1 => IH.out w' k (d + 1) h1 hkl HD.out)
        generalize hS : sumK ns f (x.kids.take j) = S at *
        generalize hR : reachF ns f k = R at *
        obtain ⟨hN1, hN2⟩ := HNx.out R S rfl rfl
        have hw1 : IntKind.i64.wrap (((1 + S : Nat) : Int) + (R : Int)) = ((1 + S + R : Nat) : Int) := by
          rw [IntWalk.i64_in _ ⟨by omega, by omega⟩]
          omega
        have HNN := Lib.hid hN1
        have HAr : Hid (∀ w', Step No wr w' → NodesR w' ns (.slice (some ad) ns.length c)) := Lib.hid fun w' hst => HA.out.to (HS1.out.trans (hs.trans hst (fun _ f _ => f)) (fun _ f _ => f))
        have Hhs := Lib.hid hs
        clear hs
        clear hp hy hle hR hS hN1
        generalize hN : 1 + S = N at *
        go_upto_region 7 with (fail)
        have H2 : Hid (Step No wr wr.drew) := Lib.hid ((Step.refl No wr).drew)
        have k1 := HKI.out _ H2.out
        obtain ⟨d0, d1, d2, d4⟩ := HE.out _ H2.out
        clear e0 e1 e2 c4 k0
        go_region_held3 (fun w' => w'.cell? ⟨w.heap.size, 0, none⟩ = some (.int .i64 rt) ∧ w'.cell? ⟨w.heap.size, 1, none⟩ = some (.int .i64 nx) ∧ w'.cell? ⟨w.heap.size, 2, none⟩ = some (.slice (some ad) ns.length c) ∧ w'.cell? ⟨(ad.add (v * 5)).block, (ad.add (v * 5)).off + 4, none⟩ = some (.slice (some ad2) x.kids.length ck) ∧ w'.cell? (ad2.add j) = some (.int .i64 a)) (first | exact ⟨d0, d1, d2, d4, k1⟩ | exact ⟨g0, g1, g2, g4, gk⟩ | exact ⟨f0, f1, f2, f4, fk⟩) (first | (go_at_call 113; refine (Find_ref _ ⟨rt, nx, ns⟩ (.slice (some ad) ns.length c) a (HAr.out _ H2.out)).mono ?_; rintro e w5 ⟨rfl, hs5⟩; rw [HP.out]; have H5 := Lib.hid (Step.trans (F := No) (G := No) H2.out hs5 (fun _ f _ => f)); obtain ⟨f0, f1, f2, f4⟩ := HE.out _ H5.out; have fk := HKI.out _ H5.out; clear hs5) | (go_at_call 114; refine (IHk.out _ (HAr.out _ H5.out)).mono ?_; rintro e w6 ⟨rfl, hs6⟩; have H6 := Lib.hid (Step.trans (F := No) (G := No) H5.out hs6 (fun _ f _ => f)); obtain ⟨g0, g1, g2, g4⟩ := HE.out _ H6.out; have gk := HKI.out _ H6.out; clear hs6))
        go_wp2
        go_roundw
        case rel => exact ⟨j + 1, hlt, by rw [HNN.out, Int.natCast_add], rfl, Hhs.out.trans H6.out (fun _ f _ => f)⟩
        case measure => simp [RowKit.intOf]; omega
      · obtain rfl : j = x.kids.length := by omega
        have HFin : Hid (1 + sumK ns f (x.kids.take x.kids.length) = reachF ns (f + 1) v) := Lib.hid (by rw [List.take_length, HQ.out])
        have Hhs := Lib.hid hs
        clear hs
        go_wp2
        go_ret
        exact ⟨by rw [HFin.out]; rfl, HS1.out.trans Hhs.out (fun _ f _ => f)⟩
end Go.Proofs.YtjeamfoicpgkhaaGreatDoor.RefReach
