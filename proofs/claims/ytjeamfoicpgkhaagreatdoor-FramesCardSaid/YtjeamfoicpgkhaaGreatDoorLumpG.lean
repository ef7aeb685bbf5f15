/- Several of my texts in one file: RefTs, RefComps, RefTake, RefTake2. -/
import Derived.Test.YtjeamfoicpgkhaaGreatDoorLumpR
import Derived.Test.YtjeamfoicpgkhaaGreatDoorGet
import Derived.Test.YtjeamfoicpgkhaaGreatDoorLumpK
/- The reference's taker: where it stands, and rows that it takes. -/
namespace Go.Proofs.YtjeamfoicpgkhaaGreatDoor.RefTs
open Go.RowKit Go.Lib Go.Proofs.YtjeamfoicpgkhaaGreatDoor.Mem Go.Proofs.YtjeamfoicpgkhaaGreatDoor.Dec Go.Proofs.YtjeamfoicpgkhaaGreatDoor.Take Go.Proofs.YtjeamfoicpgkhaaGreatDoor.Tree Go.Proofs.YtjeamfoicpgkhaaGreatDoor.Data Go.Proofs.YtjeamfoicpgkhaaGreatDoor.Pk Go.Proofs.YtjeamfoicpgkhaaGreatDoor.OwnR Go.Proofs.YtjeamfoicpgkhaaGreatDoor.Each Go.Proofs.YtjeamfoicpgkhaaGreatDoor.RefTaker Go.Proofs.YtjeamfoicpgkhaaGreatDoor.RefTk
set_option linter.unusedVariables false
set_option linter.unusedSimpArgs false
theorem digF_end (e : UInt8) {l : List UInt8} {p : SF} (h : p.1 ≤ l.length) : (digF e l p).2.1 ≤ l.length := by
  have hd := digs_le 9 (l.drop p.1)
  rw [List.length_drop] at hd
  unfold digF
  simp only
  split
  · simp only; omega
  · rename_i hc
    simp only
    have h2 : l[p.1 + digs 9 (l.drop p.1)]? = some e := Classical.not_not.1 (fun hn => hc (.inr hn))
    have := (List.getElem?_eq_some_iff.1 h2).1
    omega
theorem countF_end {l : List UInt8} {p : SF} (h : p.1 ≤ l.length) : (countF l p).2.1 ≤ l.length := by
  have := digF_end 44 h
  unfold countF
  split <;> exact this
theorem strF_end {l : List UInt8} {p : SF} (h : p.1 ≤ l.length) : (strF l p).2.1 ≤ l.length := by
  have := digF_end 58 h
  unfold strF
  simp only
  split
  · exact this
  · rename_i hc
    simp only [Bool.or_eq_true, decide_eq_true_eq, not_or] at hc
    simp only
    omega
theorem eachF_end {α : Type} {one : SF → α × SF} {l : List UInt8} (h1 : ∀ p : SF, p.1 ≤ l.length → (one p).2.1 ≤ l.length) : ∀ (n : Nat) {p : SF}, p.1 ≤ l.length → (eachF one n p).2.1 ≤ l.length
  | 0, p, h => h
  | n + 1, (q, true), h => by rw [eachF_stop]; exact h
  | n + 1, (q, false), h => by rw [eachF_next]; exact eachF_end h1 n (h1 _ h)
theorem rowF_end {α : Type} {one : SF → α × SF} {l : List UInt8} (h1 : ∀ p : SF, p.1 ≤ l.length → (one p).2.1 ≤ l.length) {p : SF} (h : p.1 ≤ l.length) : (rowF one l p).2.1 ≤ l.length := eachF_end h1 _ (countF_end h)
theorem numsF_end {l : List UInt8} {p : SF} (h : p.1 ≤ l.length) : (numsF l p).2.1 ≤ l.length := eachF_end (fun _ h => digF_end 44 h) _ (countF_end h)
theorem eachF_len {α : Type} (one : SF → α × SF) : ∀ (n : Nat) (p : SF), (eachF one n p).1.length ≤ n
  | 0, p => Nat.le_refl 0
  | n + 1, (q, true) => by rw [eachF_stop]; exact Nat.zero_le _
  | n + 1, (q, false) => by rw [eachF_next]; have := eachF_len one n (one (q, false)).2; simp only [List.length_cons]; omega
theorem count_le (l : List UInt8) (p : SF) : (countF l p).1.toNat ≤ 1000000000 := by have := countF_num l p; omega
theorem numsF_len (l : List UInt8) (p : SF) : (numsF l p).1.length ≤ 1000000000 := Nat.le_trans (eachF_len _ _ _) (count_le l p)
theorem rowF_len {α : Type} (one : SF → α × SF) (l : List UInt8) (p : SF) : (rowF one l p).1.length ≤ 1000000000 := Nat.le_trans (eachF_len _ _ _) (count_le l p)
theorem eachF_mem {α : Type} {one : SF → α × SF} : ∀ (n : Nat) (p : SF) (a : α), a ∈ (eachF one n p).1 → ∃ q, a = (one q).1
  | 0, p, a, h => by simp [eachF] at h
  | n + 1, (q, true), a, h => by rw [eachF_stop] at h; simp at h
  | n + 1, (q, false), a, h => by
    rw [eachF_next] at h
    rcases List.mem_cons.1 h with rfl | h
    · exact ⟨_, rfl⟩
    · exact eachF_mem n _ a h
/-- A taker that has been used since w. -/
structure FK (S : ByteArray) (w : World) (b : Nat) (p : SF) (wr : World) : Prop where
  rep : FRep S wr b p
  far : p.1 ≤ S.size
  step : Step (fun k => k = b) w wr
section
variable {S : ByteArray} {w wr w' : World} {b : Nat} {p p' : SF} {v : Value} {e : Ending}
theorem FK.start (h : FRep S w b p) (hf : p.1 ≤ S.size) : FK S w b p w := ⟨h, hf, Step.refl _ w⟩
theorem FK.no (h : FK S w b p wr) (hs : Step No wr w') : FK S w b p w' := ⟨hs.blk h.rep (fun f => f), h.far, h.step.trans hs (fun _ f _ => f.elim)⟩
theorem FK.next (h : FK S w b p wr) (hp : FPost S wr b v p' e w') (hf : p'.1 ≤ S.size) : e = .returned v ∧ FK S w b p' w' := ⟨hp.1, hp.2.1, hf, h.step.trans hp.2.2 (fun _ f _ => f)⟩
theorem FK.then (h : FK S w b p wr) (h' : FK S wr b p' w') : FK S w b p' w' := ⟨h'.rep, h'.far, h.step.trans h'.step (fun _ f _ => f)⟩
theorem FK.blk (h : FK S w b p wr) : wr.heap[b]? = some (.cells #[.string S, .int .i64 (p.1 : Int), .bool p.2] TF (0, 0)) := h.rep
theorem FK.set (h : FK S w b p wr) {s i : Nat} {cs : Array Value} {t : TypeId} (hs : wr.heap[s]? = some (.cells cs t (0, 0))) (ht : t ≠ TF) (hle : w.heap.size ≤ s) (u : Value) : FK S w b p (wr.setCell ⟨s, i, none⟩ u) :=
  ⟨blk_set_other h.rep (blk_ne hs h.rep ht) _, h.far, h.step.setCell (p := ⟨s, i, none⟩) (fun e => absurd e (by simp only; omega)) _⟩
theorem FK.grown {T : TypeId} {sz n b0 : Nat} {v : Value} {xs : List Value} {o : Obj} (h : FK S w b p wr) (hr : wr.ownsRow b0 T sz v n xs) (hT : T ≠ TF) (hb : ∀ k, v.ownBlock = some k → w.heap.size ≤ k) (hg : (wr.alloc o).grownBy w' v.ownBlock) : FK S w b p w' := by
  have hne := row_ne hr h.blk hT
  exact ⟨(hg.block b (by have := blk_lt h.blk; simp; omega) (fun e => hne e.symm)).trans (blk_alloc h.blk o), h.far, (h.step.alloc o).grown hg (fun k hk hlt => absurd (hb k hk) (by omega))⟩
theorem FK.types {base : Nat} {Ts : TypeId → Prop} (h : FK S w b p wr) (hT : Ts TF) : Types Ts base wr (fun k => k = b) := Types.at h.blk hT
end
/-- Rows of whole numbers, said the other way. -/
theorem ints_flat : ∀ ks : List Int, ks.flatMap encI = ints ks
  | [] => rfl
  | a :: ks => by
    rw [List.flatMap_cons, ints_flat ks]
    rfl
theorem ints_row {base : Nat} {w : World} {ks : List Int} {v : Value} (h : IntsO TI0 base w ks v) : IntsR base w ks v := ⟨by rw [ints_flat]; exact h.1, h.2, fun _ _ => trivial⟩
end Go.Proofs.YtjeamfoicpgkhaaGreatDoor.RefTs

/- The reference's taker: an edit. -/
namespace Go.Proofs.YtjeamfoicpgkhaaGreatDoor.RefTs
open Go.RowKit Go.Lib Go.Proofs.YtjeamfoicpgkhaaGreatDoor.Mem Go.Proofs.YtjeamfoicpgkhaaGreatDoor.Dec Go.Proofs.YtjeamfoicpgkhaaGreatDoor.Take Go.Proofs.YtjeamfoicpgkhaaGreatDoor.Tree Go.Proofs.YtjeamfoicpgkhaaGreatDoor.Data Go.Proofs.YtjeamfoicpgkhaaGreatDoor.Pk Go.Proofs.YtjeamfoicpgkhaaGreatDoor.OwnR Go.Proofs.YtjeamfoicpgkhaaGreatDoor.PkR Go.Proofs.YtjeamfoicpgkhaaGreatDoor.CompR Go.Proofs.YtjeamfoicpgkhaaGreatDoor.Each Go.Proofs.YtjeamfoicpgkhaaGreatDoor.TakeE Go.Proofs.YtjeamfoicpgkhaaGreatDoor.RefTaker Go.Proofs.YtjeamfoicpgkhaaGreatDoor.RefTk
set_option linter.unusedVariables false
set_option linter.unusedSimpArgs false
theorem lenS (S : ByteArray) : S.data.toList.length = S.size := Array.length_toList
theorem strF_len (l : List UInt8) (p : SF) : (strF l p).1.length ≤ l.length := by
  unfold strF
  simp only
  split
  · exact Nat.zero_le _
  · simp only [List.length_take, List.length_drop]
    omega
def CPost (S : ByteArray) (w : World) (b : Nat) (p : SF) (e : Ending) (w' : World) : Prop := ∃ v, e = .returned v ∧ CompsW w.heap.size w' (compsX S.data.toList p).1 v ∧ FK S w b (compsX S.data.toList p).2 w'
structure CL (S : ByteArray) (w : World) (b K : Nat) (c2 : SF) (ys : List CompD) (s : SF) (v : Value) (wr : World) : Prop where
  own : CompsW w.heap.size wr ys v
  fk : FK S w b s wr
  all : loopC S.data.toList K c2 [] = loopC S.data.toList (K - ys.length) s ys
theorem loopC_stop (t : List UInt8) (n q : Nat) (ys : List CompD) : loopC t n (q, true) ys = (ys, q, true) := by cases n <;> rfl
theorem loopC_end {t : List UInt8} {n q : Nat} (ys : List CompD) (h : t.length ≤ q) (hn : 0 < n) : loopC t n (q, false) ys = ([], q, true) := by
  cases n with
  | zero => omega
  | succ n => unfold loopC; rw [if_neg (show ¬ (((q, false) : SF).2 = true) from Bool.false_ne_true), if_pos h]
theorem loopC_go {t : List UInt8} {n q : Nat} (ys : List CompD) (h : ¬ t.length ≤ q) (hn : 0 < n) {c : CompD} {s : SF} (hc : compF t (q, false) = (c, s)) : loopC t n (q, false) ys = loopC t (n - 1) s (ys ++ [c]) := by
  cases n with
  | zero => omega
  | succ n => rw [loopC, if_neg (show ¬ (((q, false) : SF).2 = true) from Bool.false_ne_true), if_neg h, hc]; rfl
theorem CL.done {S : ByteArray} {w wr : World} {b K : Nat} {p c2 : SF} {ys : List CompD} {s : SF} {v : Value} (h : CL S w b K c2 ys s v wr) (hX : compsX S.data.toList p = loopC S.data.toList K c2 []) (he : K ≤ ys.length ∨ s.2 = true) : CPost S w b p (.returned v) wr := by
  have e : compsX S.data.toList p = (ys, s) := by
    rw [hX, h.all]
    rcases he with he | he
    · rw [show K - ys.length = 0 by omega]
      rfl
    · obtain ⟨q, x⟩ := s
      simp only at he
      subst he
      exact loopC_stop _ _ _ _
  refine ⟨v, rfl, ?_, ?_⟩
  · rw [e]; exact h.own
  · rw [e]; exact h.fk
theorem comp_way {t : List UInt8} {q : Nat} (h : ¬ t.length ≤ q) : (t.getD q 0 = 107 → compF t (q, false) = (⟨0, (digF 44 t (q + 1, false)).1, ba []⟩, (digF 44 t (q + 1, false)).2)) ∧ (t.getD q 0 ≠ 107 → t.getD q 0 = 99 → compF t (q, false) = (⟨2, (digF 44 t (q + 1, false)).1, ba []⟩, (digF 44 t (q + 1, false)).2)) ∧
    (t.getD q 0 ≠ 107 → t.getD q 0 ≠ 99 → compF t (q, false) = (⟨1, 0, ba (strF t (q + 1, false)).1⟩, (strF t (q + 1, false)).2)) := by
  refine ⟨fun h1 => ?_, fun h1 h2 => ?_, fun h1 h2 => ?_⟩
  · unfold compF; rw [if_neg h, if_pos h1]
  · unfold compF; rw [if_neg h, if_neg h1, if_pos h2]
  · unfold compF; rw [if_neg h, if_neg h1, if_neg h2]
theorem cl_next {S : ByteArray} {w wr w2 w3 : World} {b K q c : Nat} {c2 s1 : SF} {ys : List CompD} {A : Option Addr} {y : CompD} {v3 : Value} (hN : CL S w b K c2 ys (q, false) (.slice A ys.length c) wr) (hlt : ys.length < K) (hq : q < S.size) (hc : compF S.data.toList (q, false) = (y, s1)) (hk : FK S w b s1 w2)
    (ho : CompsW w.heap.size w2 ys (.slice A ys.length c)) (hy : y.text.size ≤ maxLen)
    (hown : w3.ownsRow 0 TC 3 v3 (ys.length + 1) (ys.flatMap compCells ++ compCells y)) (hg : (w2.alloc (.cells ⟨compCells y⟩ TC)).grownBy w3 (Value.slice A ys.length c).ownBlock) (hat : v3.ownBlock = (Value.slice A ys.length c).ownBlock ∨ v3.ownBlock = some (w2.alloc (.cells ⟨compCells y⟩ TC)).heap.size) :
    CL S w b K c2 (ys ++ [y]) s1 v3 w3 := by
  refine ⟨RowO.next (stabC _) (Ts := fun _ => True) trivial (ho.no (stabC _) (Step.alloc (Step.refl No w2) _)) (Nat.le_trans hk.step.size (by simp)) hy hown hg hat, hk.grown ho.1 (by decide) ho.2.1 hg, ?_⟩
  rw [hN.all, loopC_go ys (by rw [lenS]; omega) (by omega) hc, List.length_append, List.length_singleton, Nat.sub_sub]
set_option maxHeartbeats 8000000 in
set_option maxRecDepth 100000 in
theorem comps_x (S : ByteArray) (hS : S.size ≤ 140737488355328) (w : World) (b : Nat) (p : SF) (h : FRep S w b p) (hp : p.1 ≤ S.size) : Calls Tryz.prog 49 #[.pointer (some ⟨b, 0, none⟩)] w (CPost S w b p) := by
  have hcn := countF_num S.data.toList p
  have HCe := Lib.hid (countF_end (l := S.data.toList) (p := p) (by rw [lenS]; exact hp))
  rw [lenS] at HCe
  have HH := Lib.hid (FK.start h hp)
  have HX : Hid (compsX S.data.toList p = loopC S.data.toList (countF S.data.toList p).1.toNat (countF S.data.toList p).2 []) := Lib.hid rfl
  generalize hg : countF S.data.toList p = d at *
  obtain ⟨v, c2⟩ := d
  simp only at *
  have HG := Lib.hid hg
  obtain ⟨K, rfl⟩ := Int.eq_ofNat_of_zero_le hcn.1
  have hK : (K : Int) ≤ 1000000000 := hcn.2
  rw [Int.toNat_natCast] at HX
  clear hg h hp hcn
  go_enter Tryz.func49, Tryz.ntmps49
  go_wp2_with fail
  refine (count_any S hS _ b p HH.out.rep (Nat.le_trans HH.out.far (by omega))).mono ?_
  rintro e w1 hp
  have HF1 := Lib.hid (HH.out.next hp (by rw [HG.out]; exact HCe.out)).2
  obtain ⟨rfl, -, -⟩ := hp
  rw [HG.out] at HF1 ⊢
  simp only at HF1 ⊢
  go_wp2
  go_loopw [3, 5] (fun o i wr => ∃ (k : Nat) (ys : List CompD) (s : SF), k ≤ K ∧ i = .int .i64 k ∧ ys.length = k ∧ CL S w b K c2 ys s o wr) (fun _ i _ => K - (RowKit.intOf i).toNat)
  case atStart => exact ⟨0, [], c2, Nat.zero_le _, rfl, rfl, RowO.nil _, HF1.out, rfl⟩
  case round =>
    obtain ⟨k, ys, s, hkK, rfl, hyl, hN⟩ := hrel
    subst hyl
    have HN := Lib.hid hN
    obtain ⟨A, c, rfl, -, -⟩ := row_slice hN.own.1
    obtain ⟨q, x⟩ := s
    obtain ⟨c0, c1, c2', f1, f2⟩ := f_cells hN.fk.rep
    have hqf := hN.fk.far
    simp only at hqf
    clear hN
    by_cases hlt : ys.length < K
    · have hi1 : (ys.length : Int) < K := by omega
      cases x with
      | true =>
        go_wp2
        go_ret
        exact HN.out.done HX.out (.inr rfl)
      | false =>
        by_cases hq : q < S.size
        · have t1 : decide ((S.size : Int) ≤ q) = false := decide_eq_false (by omega)
          have t1n : decide (S.size ≤ q) = false := decide_eq_false (by omega)
          have hw1 : IntKind.i64.wrap ((q : Int) + 1) = (q : Int) + 1 := IntWalk.i64_in _ ⟨by omega, by omega⟩
          have hwq : IntKind.i64.wrap (q : Int) = (q : Int) := IntWalk.i64_in _ ⟨by omega, by omega⟩
          have hq0 : (0 : Int) ≤ q := by omega
          have hq1 : (q : Int) < S.size := by omega
          have HQs := Lib.hid hq
          have hm9 : ys.length + 1 ≤ maxLen := by unfold maxLen; omega
          have hb9 : (ys.length + 1) * 32 ≤ 140737488355328 := by omega
          have HW2 : Hid (∀ m, FK S w b (q + 1, false) ((wr.drewN m).setCell ⟨b, 1, none⟩ (.int .i64 ((q : Int) + 1))) ∧ CompsW w.heap.size ((wr.drewN m).setCell ⟨b, 1, none⟩ (.int .i64 ((q : Int) + 1))) ys (.slice A ys.length c)) := Lib.hid fun m => by
            have hb := ((Step.refl No wr).drewN m).blk HN.out.fk.rep (fun f => f)
            have hst : Step (fun k => k = b) wr ((wr.drewN m).setCell ⟨b, 1, none⟩ (.int .i64 ((q : Int) + 1))) := by refine set_at ((Step.refl _ wr).drewN m) ?_ _ <;> rfl
            refine ⟨⟨?_, by show q + 1 ≤ S.size; omega, HN.out.fk.step.trans hst (fun _ f _ => f)⟩, comps_go HN.out.own hst (HN.out.fk.types (by decide))⟩
            have := blk_set hb 1 (.int .i64 ((q : Int) + 1))
            unfold FRep
            simpa using this
          have HWy := Lib.hid (comp_way (t := S.data.toList) (q := q) (by rw [lenS]; omega))
          go_wp2
          go_quiet (fail)
          go_upto_region 10 with (fail)
          generalize hW : World.setCell _ _ _ = w2 at *
          obtain ⟨hf2, ho2⟩ : FK S w b (q + 1, false) w2 ∧ CompsW w.heap.size w2 ys (.slice A ys.length c) := by rw [← hW]; exact HW2.out _
          have HF2 := Lib.hid hf2
          have HO2 := Lib.hid ho2
          clear hW hf2 ho2 HW2 c0 c1 c2' f1 f2
          obtain ⟨c0, c1, c2', f1, f2⟩ := f_cells HF2.out.rep
          simp only [Int.natCast_add, Int.natCast_one] at c1
          obtain ⟨ch, hc, hcS⟩ : ∃ ch : UInt8, S[q]'hq = ch ∧ Hid (S.data.toList.getD q 0 = ch) := ⟨_, rfl, Lib.hid (RefTaker.byte_at S q hq)⟩
          go_quiet (fail)
          generalize hW : World.drewN w2 _ = w2d at *
          have HF3 : Hid (FK S w b (q + 1, false) w2d) := Lib.hid (by rw [← hW]; exact HF2.out.no ((Step.refl No w2).drewN _))
          have HO3 : Hid (CompsW w.heap.size w2d ys (.slice A ys.length c)) := Lib.hid (by rw [← hW]; exact RowO.no (stabC _) HO2.out ((Step.refl No w2).drewN _))
          clear hW HF2 HO2 c0 c1 c2' f1 f2
          have HF2 := HF3
          have HO2 := HO3
          clear HF3 HO3
          rw [hcS.out] at HWy
          have hfd : (q + 1, false).1 ≤ S.data.toList.length := by rw [lenS]; exact HF2.out.far
          have HD44 := Lib.hid (digF_end 44 hfd)
          have HDs := Lib.hid (strF_end hfd)
          have HSz := Lib.hid (strF_len S.data.toList (q + 1, false))
          rw [lenS] at HD44 HDs HSz
          have HFar : Hid ((q + 1, false).1 ≤ 281474976710656) := Lib.hid (by simp only; omega)
          clear hfd
          by_cases k1 : ch = 107
          · have b1 : ((ch.toNat : Int) == 107) = true := byte_eq (c := 107) (by decide) k1
            have HCm := Lib.hid (HWy.out.1 k1)
            clear k1
            go_wp2_with fail
            refine (num_any S hS _ b (q + 1, false) HF2.out.rep HFar.out).mono ?_
            rintro e w3 hp
            obtain ⟨rfl, hk3⟩ := HF2.out.next hp (HD44.out)
            have HK3 := Lib.hid hk3
            have HO3 := Lib.hid (comps_go HO2.out hp.2.2 (HF2.out.types (by decide)))
            clear hp hk3
            generalize digF 44 S.data.toList (q + 1, false) = dd at *
            obtain ⟨nv, s1⟩ := dd
            simp only at HCm HK3 HSz
            have HTx : Hid ((⟨#[]⟩ : ByteArray).size ≤ maxLen) := Lib.hid (by unfold maxLen; exact Nat.zero_le _)
            go_wp2_with (at_builtin; go_loud (refine list_append_own _ rfl (.tmp 58) (.tmp 62) 22 48 _ 3 32 rfl Tryz.underlying22 infoC rfl (by decide) (.slice A ys.length c) ys.length (ys.flatMap compCells) rfl (by exact HO3.out.1.alloc _) ⟨w3.heap.size, 0, none⟩ 1 1 [.int .i64 0, .int .i64 nv, .string (⟨#[]⟩ : ByteArray)] rfl rfl (by exact cells_new w3 #[.int .i64 0, .int .i64 nv, .string (⟨#[]⟩ : ByteArray)] TC) (by simp [Value.oneCell']) hm9 hb9 ?_; intro v5 w5 hown hg hat; have HM := Lib.hid (cl_next (y := ⟨0, nv, (⟨#[]⟩ : ByteArray)⟩) HN.out hlt HQs.out HCm.out HK3.out HO3.out HTx.out hown hg hat); clear hown hg hat))
            go_roundw
            case rel => exact ⟨ys.length + 1, _, _, hlt, by go_num, by simp, HM.out⟩
            case measure => simp [RowKit.intOf]; omega
          · have b1 : ((ch.toNat : Int) == 107) = false := byte_ne (c := 107) (by decide) k1
            by_cases k2 : ch = 99
            · have b2 : ((ch.toNat : Int) == 99) = true := byte_eq (c := 99) (by decide) k2
              have HCm := Lib.hid (HWy.out.2.1 k1 k2)
              clear k1 k2
              go_wp2_with fail
              refine (num_any S hS _ b (q + 1, false) HF2.out.rep HFar.out).mono ?_
              rintro e w3 hp
              obtain ⟨rfl, hk3⟩ := HF2.out.next hp (HD44.out)
              have HK3 := Lib.hid hk3
              have HO3 := Lib.hid (comps_go HO2.out hp.2.2 (HF2.out.types (by decide)))
              clear hp hk3
              generalize digF 44 S.data.toList (q + 1, false) = dd at *
              obtain ⟨nv, s1⟩ := dd
              simp only at HCm HK3 HSz
              have HTx : Hid ((⟨#[]⟩ : ByteArray).size ≤ maxLen) := Lib.hid (by unfold maxLen; exact Nat.zero_le _)
              go_wp2_with (at_builtin; go_loud (refine list_append_own _ rfl (.tmp 66) (.tmp 70) 22 48 _ 3 32 rfl Tryz.underlying22 infoC rfl (by decide) (.slice A ys.length c) ys.length (ys.flatMap compCells) rfl (by exact HO3.out.1.alloc _) ⟨w3.heap.size, 0, none⟩ 1 1 [.int .i64 2, .int .i64 nv, .string (⟨#[]⟩ : ByteArray)] rfl rfl (by exact cells_new w3 #[.int .i64 2, .int .i64 nv, .string (⟨#[]⟩ : ByteArray)] TC) (by simp [Value.oneCell']) hm9 hb9 ?_; intro v5 w5 hown hg hat; have HM := Lib.hid (cl_next (y := ⟨2, nv, (⟨#[]⟩ : ByteArray)⟩) HN.out hlt HQs.out HCm.out HK3.out HO3.out HTx.out hown hg hat); clear hown hg hat))
              go_roundw
              case rel => exact ⟨ys.length + 1, _, _, hlt, by go_num, by simp, HM.out⟩
              case measure => simp [RowKit.intOf]; omega
            · have b2 : ((ch.toNat : Int) == 99) = false := byte_ne (c := 99) (by decide) k2
              have HCm := Lib.hid (HWy.out.2.2 k1 k2)
              clear k1 k2
              go_wp2_with fail
              refine (str_any S hS _ b (q + 1, false) HF2.out.rep HFar.out).mono ?_
              rintro e w3 hp
              obtain ⟨rfl, hk3⟩ := HF2.out.next hp (HDs.out)
              have HK3 := Lib.hid hk3
              have HO3 := Lib.hid (comps_go HO2.out hp.2.2 (HF2.out.types (by decide)))
              clear hp hk3
              generalize strF S.data.toList (q + 1, false) = dd at *
              obtain ⟨nv, s1⟩ := dd
              simp only at HCm HK3 HSz
              have HTx : Hid ((⟨nv.toArray⟩ : ByteArray).size ≤ maxLen) := Lib.hid (by unfold maxLen; have := HSz.out; simp only [ByteArray.size, List.size_toArray] at *; omega)
              go_wp2_with (at_builtin; go_loud (refine list_append_own _ rfl (.tmp 50) (.tmp 54) 22 48 _ 3 32 rfl Tryz.underlying22 infoC rfl (by decide) (.slice A ys.length c) ys.length (ys.flatMap compCells) rfl (by exact HO3.out.1.alloc _) ⟨w3.heap.size, 0, none⟩ 1 1 [.int .i64 1, .int .i64 0, .string (⟨nv.toArray⟩ : ByteArray)] rfl rfl (by exact cells_new w3 #[.int .i64 1, .int .i64 0, .string (⟨nv.toArray⟩ : ByteArray)] TC) (by simp [Value.oneCell']) hm9 hb9 ?_; intro v5 w5 hown hg hat; have HM := Lib.hid (cl_next (y := ⟨1, 0, (⟨nv.toArray⟩ : ByteArray)⟩) HN.out hlt HQs.out HCm.out HK3.out HO3.out HTx.out hown hg hat); clear hown hg hat))
              go_roundw
              case rel => exact ⟨ys.length + 1, _, _, hlt, by go_num, by simp, HM.out⟩
              case measure => simp [RowKit.intOf]; omega
        · have t1 : decide ((S.size : Int) ≤ q) = true := decide_eq_true (by omega)
          have t1n : decide (S.size ≤ q) = true := decide_eq_true (by omega)
          have HE : Hid (∀ m, CPost S w b p (.returned (.slice none 0 0)) ((wr.drewN m).setCell ⟨b, 2, none⟩ (.bool true))) := Lib.hid fun m => by
            have e : compsX S.data.toList p = ([], q, true) := by rw [HX.out, HN.out.all, loopC_end ys (by rw [lenS]; omega) (by omega)]
            have hb := ((Step.refl No wr).drewN m).blk HN.out.fk.rep (fun f => f)
            have hst : Step (fun k => k = b) wr ((wr.drewN m).setCell ⟨b, 2, none⟩ (.bool true)) := by refine set_at ((Step.refl _ wr).drewN m) ?_ _ <;> rfl
            refine ⟨_, rfl, ?_, ?_⟩
            · rw [e]; exact RowO.nil _
            · rw [e]; exact ⟨frep_bad hb, HN.out.fk.far, HN.out.fk.step.trans hst (fun _ f _ => f)⟩
          go_wp2
          go_quiet (fail)
          go_wp2
          go_ret
          exact HE.out _
    · have hi1 : ¬ (ys.length : Int) < K := by omega
      go_wp2
      go_ret
      exact HN.out.done HX.out (.inl (by omega))
end Go.Proofs.YtjeamfoicpgkhaaGreatDoor.RefTs

/- The reference's taker: trees. -/
namespace Go.Proofs.YtjeamfoicpgkhaaGreatDoor.RefTs
open Go.RowKit Go.Lib Go.Proofs.YtjeamfoicpgkhaaGreatDoor.Mem Go.Proofs.YtjeamfoicpgkhaaGreatDoor.Dec Go.Proofs.YtjeamfoicpgkhaaGreatDoor.Take Go.Proofs.YtjeamfoicpgkhaaGreatDoor.Tree Go.Proofs.YtjeamfoicpgkhaaGreatDoor.Data Go.Proofs.YtjeamfoicpgkhaaGreatDoor.Pk Go.Proofs.YtjeamfoicpgkhaaGreatDoor.OwnR Go.Proofs.YtjeamfoicpgkhaaGreatDoor.PkR Go.Proofs.YtjeamfoicpgkhaaGreatDoor.CompR Go.Proofs.YtjeamfoicpgkhaaGreatDoor.MsgR Go.Proofs.YtjeamfoicpgkhaaGreatDoor.Each Go.Proofs.YtjeamfoicpgkhaaGreatDoor.EachS Go.Proofs.YtjeamfoicpgkhaaGreatDoor.TakeE Go.Proofs.YtjeamfoicpgkhaaGreatDoor.RefTaker Go.Proofs.YtjeamfoicpgkhaaGreatDoor.RefTk
open Go.Proofs.YtjeamfoicpgkhaaGreatDoor.TakeM (nodes_base nodes_slice nodes_go)
open Go.Proofs.YtjeamfoicpgkhaaGreatDoor.CopyM (set_new)
set_option linter.unusedVariables false
set_option linter.unusedSimpArgs false
section
variable {S : ByteArray} {w w0 wr w' : World} {b Y : Nat} {p p' : SF} {T : TypeId} {yc : Array Value}
theorem FK.far' (h : FK S w b p wr) (hS : S.size ≤ 140737488355328) : p.1 ≤ 281474976710656 := Nat.le_trans h.far (by omega)
theorem FK.farL (h : FK S w b p wr) : p.1 ≤ S.data.toList.length := by rw [lenS]; exact h.far
theorem num_x (hS : S.size ≤ 140737488355328) (h : FK S w b p wr) {x : Int} {s : SF} (hd : digF 44 S.data.toList p = (x, s)) : Calls Tryz.prog 48 #[.pointer (some ⟨b, 0, none⟩)] wr fun e w' => e = .returned (.int .i64 x) ∧ FK S wr b s w' := by
  refine (num_any S hS wr b p h.rep (h.far' hS)).mono fun e w' hp => ?_
  have hf := digF_end 44 h.farL
  rw [hd] at hp hf
  rw [lenS] at hf
  exact (FK.start h.rep h.far).next hp hf
theorem count_x (hS : S.size ≤ 140737488355328) (h : FK S w b p wr) {x : Int} {s : SF} (hd : countF S.data.toList p = (x, s)) : Calls Tryz.prog 50 #[.pointer (some ⟨b, 0, none⟩)] wr fun e w' => e = .returned (.int .i64 x) ∧ FK S wr b s w' := by
  refine (count_any S hS wr b p h.rep (h.far' hS)).mono fun e w' hp => ?_
  have hf := countF_end h.farL
  rw [hd] at hp hf
  rw [lenS] at hf
  exact (FK.start h.rep h.far).next hp hf
theorem str_x (hS : S.size ≤ 140737488355328) (h : FK S w b p wr) {x : List UInt8} {s : SF} (hd : strF S.data.toList p = (x, s)) : Calls Tryz.prog 52 #[.pointer (some ⟨b, 0, none⟩)] wr fun e w' => e = .returned (.string ⟨x.toArray⟩) ∧ FK S wr b s w' := by
  refine (str_any S hS wr b p h.rep (h.far' hS)).mono fun e w' hp => ?_
  have hf := strF_end h.farL
  rw [hd] at hp hf
  rw [lenS] at hf
  exact (FK.start h.rep h.far).next hp hf
def NPost (S : ByteArray) (wr : World) (b : Nat) (xs : List Int) (s : SF) (e : Ending) (w' : World) : Prop := ∃ v, e = .returned v ∧ IntsR wr.heap.size w' xs v ∧ FK S wr b s w'
theorem nums_x (hS : S.size ≤ 140737488355328) (h : FK S w b p wr) {x : List Int} {s : SF} (hd : numsF S.data.toList p = (x, s)) : Calls Tryz.prog 98 #[.pointer (some ⟨b, 0, none⟩)] wr (NPost S wr b x s) := by
  refine (nums_any S hS wr b p h.rep h.far).mono fun e w' hp => ?_
  have hf := numsF_end h.farL
  unfold NumsPost at hp
  rw [hd] at hp hf
  rw [lenS] at hf
  obtain ⟨v, rfl, h1, h2, h3⟩ := hp
  exact ⟨v, rfl, ints_row h1, h2, hf, h3⟩
def CsPost (S : ByteArray) (wr : World) (b : Nat) (xs : List CompD) (s : SF) (e : Ending) (w' : World) : Prop := ∃ v, e = .returned v ∧ CompsW wr.heap.size w' xs v ∧ FK S wr b s w'
theorem comps_y (hS : S.size ≤ 140737488355328) (h : FK S w b p wr) {x : List CompD} {s : SF} (hd : compsX S.data.toList p = (x, s)) : Calls Tryz.prog 49 #[.pointer (some ⟨b, 0, none⟩)] wr (CsPost S wr b x s) := by
  refine (comps_x S hS wr b p h.rep h.far).mono fun e w' hp => ?_
  unfold CPost at hp
  rw [hd] at hp
  exact hp
/-- A struct under way since w0. -/
structure EY (T : TypeId) (S : ByteArray) (w w0 : World) (b Y : Nat) (yc : Array Value) (p : SF) (wr : World) : Prop where
  y : wr.heap[Y]? = some (.cells yc T (0, 0))
  fk : FK S w b p wr
  step : Step (fun k => k = b) w0 wr
  le : w0.heap.size ≤ Y
  base : w.heap.size ≤ w0.heap.size
theorem EY.next (hT : T ≠ TF) (h : EY T S w w0 b Y yc p wr) (ht : FK S wr b p' w') : EY T S w w0 b Y yc p' w' := ⟨ht.step.blk h.y (blk_ne h.y h.fk.blk hT), h.fk.then ht, h.step.trans ht.step (fun _ f _ => f), h.le, h.base⟩
theorem EY.store (hT : T ≠ TF) (h : EY T S w w0 b Y yc p wr) (i : Nat) (v : Value) : EY T S w w0 b Y (yc.setIfInBounds i v) p (wr.setCell ⟨Y, i, none⟩ v) :=
  ⟨blk_set h.y i v, h.fk.set h.y hT (Nat.le_trans h.base h.le) v, h.step.setCell (p := ⟨Y, i, none⟩) (fun e => absurd e (by have := h.le; simp only; omega)) _, h.le, h.base⟩
theorem EY.born (hf : FK S w b p wr) (hs : Step (fun k => k = b) w0 wr) (hb : w.heap.size ≤ w0.heap.size) (yc : Array Value) : EY T S w w0 b wr.heap.size yc p (wr.alloc (.cells yc T)) :=
  ⟨blk_new _ _, hf.no (Step.alloc (Step.refl _ _) _), hs.alloc _, hs.size, hb⟩
theorem EY.no (h : EY T S w w0 b Y yc p wr) (hs : Step No wr w') : EY T S w w0 b Y yc p w' := ⟨hs.blk h.y (fun f => f), h.fk.no hs, h.step.trans hs (fun _ f _ => f.elim), h.le, h.base⟩
theorem EY.grown {T' : TypeId} {sz n b0 : Nat} {v : Value} {xs : List Value} {o : Obj} (h : EY T S w w0 b Y yc p wr) (hr : wr.ownsRow b0 T' sz v n xs) (hT : T' ≠ T) (hT2 : T' ≠ TF) (hb : ∀ k, v.ownBlock = some k → w0.heap.size ≤ k) (hg : (wr.alloc o).grownBy w' v.ownBlock) : EY T S w w0 b Y yc p w' :=
  ⟨(hg.block Y (by have := blk_lt h.y; simp; omega) (fun e => row_ne hr h.y hT e.symm)).trans (blk_alloc h.y o), h.fk.grown hr hT2 (fun k hk => Nat.le_trans h.base (hb k hk)) hg, (h.step.alloc o).grown hg (fun k hk hlt => absurd (hb k hk) (by omega)), h.le, h.base⟩
/-- Another struct, under way since later, lies beside it. -/
theorem EY.beside {w1 : World} {X : Nat} {xc : Array Value} {p0 : SF} {T1 : TypeId} (hX : EY T S w w0 b X xc p0 w1) (hT : T ≠ TF) (h : EY T1 S w w1 b Y yc p wr) : EY T S w w0 b X xc p wr :=
  ⟨h.step.blk hX.y (blk_ne hX.y hX.fk.blk hT), h.fk, hX.step.trans h.step (fun _ f _ => f), hX.le, hX.base⟩
end
theorem node_eq {t : List UInt8} {p s1 s2 s3 s4 s5 : SF} {x1 x2 x3 x4 : Int} {ks : List Int} (h1 : digF 44 t p = (x1, s1)) (h2 : digF 44 t s1 = (x2, s2)) (h3 : digF 44 t s2 = (x3, s3)) (h4 : digF 44 t s3 = (x4, s4)) (h5 : numsF t s4 = (ks, s5)) : nodeF t p = (⟨x1, x2, x3, x4, ks⟩, s5) := by
  unfold nodeF
  simp only [h1, h2, h3, h4, h5]
theorem tree_eq {t : List UInt8} {p s1 s2 s3 : SF} {x1 x2 : Int} {ns : List NodeD} (h1 : digF 44 t p = (x1, s1)) (h2 : digF 44 t s1 = (x2, s2)) (h3 : rowF (nodeF t) t s2 = (ns, s3)) : treeF t p = (⟨x1, x2, ns⟩, s3) := by
  unfold treeF
  simp only [h1, h2, h3]
theorem each_stop {α β : Type} {one : SF → α × SF} {f : β → α} {K k : Nat} {c2 s : SF} {ys : List β} (h : eachF one K c2 = (ys.map f ++ (eachF one (K - k) s).1, (eachF one (K - k) s).2)) (he : K ≤ k ∨ s.2 = true) : eachF one K c2 = (ys.map f, s) := by
  rw [h]
  rcases he with he | he
  · rw [show K - k = 0 by omega]
    simp [eachF]
  · obtain ⟨q, x⟩ := s
    simp only at he
    subst he
    rw [eachF_stop]
    simp
theorem each_more {α β : Type} {one : SF → α × SF} {f : β → α} {K k q : Nat} {c2 s1 : SF} {ys : List β} {y : β} (h : eachF one K c2 = (ys.map f ++ (eachF one (K - k) (q, false)).1, (eachF one (K - k) (q, false)).2)) (hk : k < K) (ho : one (q, false) = (f y, s1)) : eachF one K c2 = ((ys ++ [y]).map f ++ (eachF one (K - (k + 1)) s1).1, (eachF one (K - (k + 1)) s1).2) := by
  rw [h, show K - k = (K - (k + 1)) + 1 by omega, eachF_next, ho]
  simp
abbrev TTr : TypeId := 26
def tZ : Array Value := #[.int .i64 0, .int .i64 0, .slice none 0 0]
def TreeX (S : ByteArray) (w : World) (b : Nat) (t : TreeD) (s : SF) (e : Ending) (w' : World) : Prop := ∃ (nv : Value) (ys : List (NodeD × Value)), e = .returned (.agg #[.int .i64 t.root, .int .i64 t.next, nv]) ∧ ys.map (·.1) = t.nodes ∧ NodesW w.heap.size w' ys nv ∧ FK S w b s w'
set_option maxHeartbeats 8000000 in
set_option maxRecDepth 100000 in
theorem tree_x (S : ByteArray) (hS : S.size ≤ 140737488355328) (w : World) (b : Nat) (p : SF) (h : FRep S w b p) (hp : p.1 ≤ S.size) {t : TreeD} {sT : SF} (hT : treeF S.data.toList p = (t, sT)) : Calls Tryz.prog 53 #[.pointer (some ⟨b, 0, none⟩)] w (TreeX S w b t sT) := by
  obtain ⟨x1, s1, h1⟩ : ∃ x s', digF 44 S.data.toList p = (x, s') := ⟨_, _, rfl⟩
  obtain ⟨x2, s2, h2⟩ : ∃ x s', digF 44 S.data.toList s1 = (x, s') := ⟨_, _, rfl⟩
  obtain ⟨x3, s3, h3⟩ : ∃ x s', countF S.data.toList s2 = (x, s') := ⟨_, _, rfl⟩
  have hcn := countF_num S.data.toList s2
  rw [h3] at hcn
  obtain ⟨K, rfl⟩ := Int.eq_ofNat_of_zero_le hcn.1
  have hK : (K : Int) ≤ 1000000000 := hcn.2
  have HRw : Hid (rowF (nodeF S.data.toList) S.data.toList s2 = eachF (nodeF S.data.toList) K s3) := Lib.hid (by unfold rowF; rw [h3]; simp)
  have HT : Hid (∀ ns s, eachF (nodeF S.data.toList) K s3 = (ns, s) → t = ⟨x1, x2, ns⟩ ∧ sT = s) := Lib.hid fun ns s he => by
    have := tree_eq h1 h2 (HRw.out.trans he)
    rw [hT] at this
    injection this with e1 e2
    exact ⟨e1, e2⟩
  have D1 := Lib.hid h1
  have D2 := Lib.hid h2
  have D3 := Lib.hid h3
  have H0 := Lib.hid ((FK.start h hp).no (Step.alloc (Step.refl No w) (.cells tZ TTr)))
  have HR0 := Lib.hid (blk_new w (.cells tZ TTr))
  have hz : w.heap.size ≤ (w.alloc (.cells tZ TTr)).heap.size := by simp
  have HRn : Hid (w.heap.size < (w.alloc (.cells tZ TTr)).heap.size) := Lib.hid (by simp)
  simp only [tZ] at H0 HR0 hz HRn
  clear h hp hT h1 h2 h3 hcn
  go_enter Tryz.func53, Tryz.ntmps53
  go_wp2_with fail
  generalize hW : World.alloc w _ = w1 at *
  generalize hR : w.heap.size = R at *
  have HRe := Lib.hid hR
  clear hW hR
  refine (num_x hS H0.out D1.out).mono ?_
  rintro e w2 ⟨rfl, hk⟩
  have HB := Lib.hid (EY.born (T := TTr) (H0.out.then hk) hk.step (by rw [HRe.out]; exact hz) #[.int .i64 x1, .int .i64 0, .slice none 0 0])
  clear hk
  go_wp2_with fail
  generalize hW : World.alloc w2 _ = w3 at *
  generalize w2.heap.size = X at *
  clear hW
  refine (num_x hS HB.out.fk D2.out).mono ?_
  rintro e wn ⟨rfl, hk⟩
  have HX := Lib.hid (HB.out.next (by decide) hk)
  clear hk HB
  have HB := Lib.hid (HX.out.store (by decide) 1 (.int .i64 x2))
  have d := blk_cell HX.out.y 1
  have f := blk_free HX.out.y 1
  simp at d HB
  clear HX
  go_wp2_with fail
  generalize hW : World.setCell wn _ _ = wm at *
  clear hW d f
  refine (count_x hS HB.out.fk D3.out).mono ?_
  rintro e w4 ⟨rfl, hk⟩
  have HB4 := Lib.hid (HB.out.next (by decide) hk)
  clear hk HB
  go_wp2
  go_loopw [5] (fun i wr => ∃ (k : Nat) (ys : List (NodeD × Value)) (v : Value) (s : SF), k ≤ K ∧ i = .int .i64 k ∧ ys.length = k ∧ EY TTr S w w1 b X #[.int .i64 x1, .int .i64 x2, v] s wr ∧ NodesW w1.heap.size wr ys v ∧ eachF (nodeF S.data.toList) K s3 = (ys.map (·.1) ++ (eachF (nodeF S.data.toList) (K - k) s).1, (eachF (nodeF S.data.toList) (K - k) s).2)) (fun i _ => K - (RowKit.intOf i).toNat)
  case atStart => exact ⟨0, [], _, s3, Nat.zero_le _, rfl, rfl, HB4.out, RowO.nil _, by simp⟩
  case round =>
    obtain ⟨k, ys, v, s, hkK, rfl, hyl, hX, hN, he⟩ := hrel
    subst hyl
    obtain ⟨A, c, rfl, -, -⟩ := row_slice hN.1
    obtain ⟨c0, c1, c2', f1, f2⟩ := f_cells hX.fk.rep
    have HX := Lib.hid hX
    have HN := Lib.hid hN
    have HE := Lib.hid he
    clear hX hN he
    by_cases hlt : ys.length < K
    · have hi1 : (ys.length : Int) < K := by omega
      by_cases hx : s.2 = true
      · rw [hx] at c2'
        have HXt := Lib.hid hx
        clear hx
        have hst := each_stop HE.out (.inr HXt.out)
        obtain ⟨rfl, rfl⟩ := HT.out _ _ hst
        have hq := HX.out.step.blk HR0.out (blk_ne HR0.out H0.out.blk (by decide))
        have hsz : w1.heap.size ≤ X := HX.out.le
        have hRn := HRn.out
        have hne : ¬ R = X := by omega
        have hne2 : ¬ X = R := fun e => hne e.symm
        have e0 := blk_cell HX.out.y 0
        have e1 := blk_cell HX.out.y 1
        have e2 := blk_cell HX.out.y 2
        have q0 := blk_cell hq 0
        have q1 := blk_cell hq 1
        have q2 := blk_cell hq 2
        have r0 := blk_free hq 0
        have r1 := blk_free hq 1
        have r2 := blk_free hq 2
        simp at e0 e1 e2 q0 q1 q2
        have hD := sets_blk [.int .i64 x1, .int .i64 x2, .slice A ys.length c] [] [.int .i64 0, .int .i64 0, .slice none 0 0] wr (by simpa using hq) rfl
        have hS := sets_step R [.int .i64 x1, .int .i64 x2, .slice A ys.length c] wr 0
        have HN9 := Lib.hid (nodes_base (nodes_go HN.out hS (Types.at hq ⟨by decide, by decide⟩)) HX.out.base)
        have HF9 : Hid (FK S w b sT (sets wr R 0 [.int .i64 x1, .int .i64 x2, .slice A ys.length c])) := Lib.hid ⟨hS.blk HX.out.fk.rep (blk_ne HX.out.fk.blk hq (by decide)), HX.out.fk.far, HX.out.fk.step.trans hS (fun k f hk => absurd f (by have := HRe.out; omega))⟩
        have HD := Lib.hid hD
        simp only [sets, List.length_nil, List.nil_append, Nat.reduceAdd] at HD HN9 HF9
        clear hq hD hS hsz hRn hst
        go_wp2
        generalize World.setCell (World.setCell (World.setCell wr ⟨R, 0, none⟩ _) ⟨R, 1, none⟩ _) ⟨R, 2, none⟩ _ = W at *
        have v0 := blk_cell HD.out 0
        have v1 := blk_cell HD.out 1
        have v2 := blk_cell HD.out 2
        simp at v0 v1 v2
        exact bodyPost_ret (by simp [results, Tryz.results53, go_sem, v0, v1, v2]) rfl ⟨_, ys, rfl, rfl, HN9.out, HF9.out⟩
      · obtain ⟨q, x⟩ := s
        obtain rfl : x = false := by simpa using hx
        clear hx
        obtain ⟨y1, t1, g1⟩ : ∃ x s', digF 44 S.data.toList (q, false) = (x, s') := ⟨_, _, rfl⟩
        obtain ⟨y2, t2, g2⟩ : ∃ x s', digF 44 S.data.toList t1 = (x, s') := ⟨_, _, rfl⟩
        obtain ⟨y3, t3, g3⟩ : ∃ x s', digF 44 S.data.toList t2 = (x, s') := ⟨_, _, rfl⟩
        obtain ⟨y4, t4, g4⟩ : ∃ x s', digF 44 S.data.toList t3 = (x, s') := ⟨_, _, rfl⟩
        obtain ⟨ks, t5, g5⟩ : ∃ x s', numsF S.data.toList t4 = (x, s') := ⟨_, _, rfl⟩
        have HNd := Lib.hid (node_eq g1 g2 g3 g4 g5)
        have G1 := Lib.hid g1
        have G2 := Lib.hid g2
        have G3 := Lib.hid g3
        have G4 := Lib.hid g4
        have G5 := Lib.hid g5
        have hm9 : ys.length + 1 ≤ maxLen := by unfold maxLen; omega
        have hb9 : (ys.length + 1) * 56 ≤ 140737488355328 := by omega
        clear g1 g2 g3 g4 g5
        go_wp2_with fail
        refine (num_x hS HX.out.fk G1.out).mono ?_
        rintro e wa ⟨rfl, hk⟩
        have HB := Lib.hid (EY.born (w := w) (T := TN) (HX.out.fk.then hk) hk.step (Nat.le_trans HX.out.base HX.out.step.size) #[.int .i64 y1, .int .i64 0, .int .i64 0, .int .i64 0, .slice none 0 0])
        clear hk c0 c1 c2' f1 f2
        go_wp2_with fail
        generalize hW : World.alloc wa _ = wb at *
        generalize wa.heap.size = Y at *
        clear hW
        refine (num_x hS HB.out.fk G2.out).mono ?_
        rintro e wn ⟨rfl, hk⟩
        have HX := Lib.hid (HB.out.next (by decide) hk)
        clear hk HB
        have HB := Lib.hid (HX.out.store (by decide) 1 (.int .i64 y2))
        have d := blk_cell HX.out.y 1
        have f := blk_free HX.out.y 1
        simp at d HB
        clear HX
        go_wp2_with fail
        generalize hW : World.setCell wn _ _ = wm at *
        clear hW d f
        refine (num_x hS HB.out.fk G3.out).mono ?_
        rintro e wn ⟨rfl, hk⟩
        have HX := Lib.hid (HB.out.next (by decide) hk)
        clear hk HB
        have HB := Lib.hid (HX.out.store (by decide) 2 (.int .i64 y3))
        have d := blk_cell HX.out.y 2
        have f := blk_free HX.out.y 2
        simp at d HB
        clear HX
        go_wp2_with fail
        generalize hW : World.setCell wn _ _ = wm at *
        clear hW d f
        refine (num_x hS HB.out.fk G4.out).mono ?_
        rintro e wn ⟨rfl, hk⟩
        have HX := Lib.hid (HB.out.next (by decide) hk)
        clear hk HB
        have HB := Lib.hid (HX.out.store (by decide) 3 (.int .i64 y4))
        have d := blk_cell HX.out.y 3
        have f := blk_free HX.out.y 3
        simp at d HB
        clear HX
        go_wp2_with fail
        generalize hW : World.setCell wn _ _ = wm at *
        clear hW d f
        refine (nums_x hS HB.out.fk G5.out).mono ?_
        rintro e wn ⟨kv, rfl, hi, hk⟩
        obtain ⟨Ak, nk, ck, rfl⟩ := ints_slice hi
        have HY := Lib.hid (HB.out.next (by decide) hk)
        have HZ := Lib.hid (HB.out.step.size)
        clear hk HB
        have HB := Lib.hid (HY.out.store (by decide) 4 (.slice Ak nk ck))
        have HI := Lib.hid (CopyM.ints_at hi (w' := wn.setCell ⟨Y, 4, none⟩ (.slice Ak nk ck)) (b := Y) (by refine set_at (Step.refl _ _) ?_ _ <;> rfl) HY.out.y (by decide))
        have d := blk_cell HY.out.y 4
        have f := blk_free HY.out.y 4
        simp at d HB
        clear HY hi
        go_upto_region 12 with (fail)
        generalize hW : World.setCell wn _ _ = wm at *
        clear hW d f
        have HX2 := Lib.hid (HX.out.beside (by decide) HB.out)
        have HN2 := Lib.hid (nodes_go HN.out HB.out.step (HX.out.fk.types ⟨by decide, by decide⟩))
        have HI2 := Lib.hid (ints_base HI.out (Nat.le_trans HX.out.step.size HZ.out))
        have e0 := blk_cell HB.out.y 0
        have e1 := blk_cell HB.out.y 1
        have e2 := blk_cell HB.out.y 2
        have e3 := blk_cell HB.out.y 3
        have e4 := blk_cell HB.out.y 4
        simp at e0 e1 e2 e3 e4
        have b2 := blk_cell HX2.out.y 2
        simp at b2
        have HI5 := Lib.hid (ints_new HI2.out (.cells #[.int .i64 y1, .int .i64 y2, .int .i64 y3, .int .i64 y4, .slice Ak nk ck] TN))
        have HO5 := Lib.hid (RowO.no (stabN _) HN2.out (Step.alloc (Step.refl No wm) (.cells #[.int .i64 y1, .int .i64 y2, .int .i64 y3, .int .i64 y4, .slice Ak nk ck] TN)))
        have HZ5 : Hid (w1.heap.size ≤ (wm.alloc (.cells #[.int .i64 y1, .int .i64 y2, .int .i64 y3, .int .i64 y4, .slice Ak nk ck] TN)).heap.size) := Lib.hid (Nat.le_trans HX2.out.step.size (by simp))
        go_wp2_with (at_builtin; go_loud (refine list_append_own _ rfl (.tmp 43) (.tmp 45) 24 128 _ 5 56 rfl Tryz.underlying24 infoN rfl (by decide) (.slice A ys.length c) ys.length (ys.flatMap encN) rfl (by exact HO5.out.1) ⟨wm.heap.size, 0, none⟩ 1 1 [.int .i64 y1, .int .i64 y2, .int .i64 y3, .int .i64 y4, .slice Ak nk ck] rfl rfl (by exact cells_new wm #[.int .i64 y1, .int .i64 y2, .int .i64 y3, .int .i64 y4, .slice Ak nk ck] TN) (by simp [Value.oneCell']) hm9 hb9 ?_; intro v5 w5 hown hg hat; have hX5 := HX2.out.grown HN2.out.1 (by decide) (by decide) HN2.out.2.1 hg; have b5 := (show w5.cell? ⟨X, 2, none⟩ = some (.slice A ys.length c) from blk_cell hX5.y 2); have f5 := blk_free hX5.y 2; have HR5 := Lib.hid (nodes_go (RowO.next (stabN _) (tsI (by decide)) HO5.out HZ5.out (x := (⟨y1, y2, y3, y4, ks⟩, .slice Ak nk ck)) HI5.out hown hg hat) (w' := w5.setCell ⟨X, 2, none⟩ v5) (F := fun k => k = X) (by refine set_at (Step.refl _ _) ?_ _ <;> rfl) (Types.at hX5.y ⟨by decide, by decide⟩)); have HX5 := Lib.hid (hX5.store (by decide) 2 v5); obtain ⟨A5, c5, rfl, -, -⟩ := row_slice hown; clear hown hg hat hX5))
        go_roundw
        case rel => exact ⟨ys.length + 1, ys ++ [(⟨y1, y2, y3, y4, ks⟩, .slice Ak nk ck)], _, t5, hlt, by go_num, by simp, HX5.out, HR5.out, each_more HE.out hlt HNd.out⟩
        case measure => simp [RowKit.intOf]; omega
    · have hi1 : ¬ (ys.length : Int) < K := by omega
      have hst := each_stop HE.out (.inl (by omega))
      obtain ⟨rfl, rfl⟩ := HT.out _ _ hst
      have hq := HX.out.step.blk HR0.out (blk_ne HR0.out H0.out.blk (by decide))
      have hsz : w1.heap.size ≤ X := HX.out.le
      have hRn := HRn.out
      have hne : ¬ R = X := by omega
      have hne2 : ¬ X = R := fun e => hne e.symm
      have e0 := blk_cell HX.out.y 0
      have e1 := blk_cell HX.out.y 1
      have e2 := blk_cell HX.out.y 2
      have q0 := blk_cell hq 0
      have q1 := blk_cell hq 1
      have q2 := blk_cell hq 2
      have r0 := blk_free hq 0
      have r1 := blk_free hq 1
      have r2 := blk_free hq 2
      simp at e0 e1 e2 q0 q1 q2
      have hD := sets_blk [.int .i64 x1, .int .i64 x2, .slice A ys.length c] [] [.int .i64 0, .int .i64 0, .slice none 0 0] wr (by simpa using hq) rfl
      have hS := sets_step R [.int .i64 x1, .int .i64 x2, .slice A ys.length c] wr 0
      have HN9 := Lib.hid (nodes_base (nodes_go HN.out hS (Types.at hq ⟨by decide, by decide⟩)) HX.out.base)
      have HF9 : Hid (FK S w b sT (sets wr R 0 [.int .i64 x1, .int .i64 x2, .slice A ys.length c])) := Lib.hid ⟨hS.blk HX.out.fk.rep (blk_ne HX.out.fk.blk hq (by decide)), HX.out.fk.far, HX.out.fk.step.trans hS (fun k f hk => absurd f (by have := HRe.out; omega))⟩
      have HD := Lib.hid hD
      simp only [sets, List.length_nil, List.nil_append, Nat.reduceAdd] at HD HN9 HF9
      clear hq hD hS hsz hRn hst
      go_wp2
      generalize World.setCell (World.setCell (World.setCell wr ⟨R, 0, none⟩ _) ⟨R, 1, none⟩ _) ⟨R, 2, none⟩ _ = W at *
      have v0 := blk_cell HD.out 0
      have v1 := blk_cell HD.out 1
      have v2 := blk_cell HD.out 2
      simp at v0 v1 v2
      exact bodyPost_ret (by simp [results, Tryz.results53, go_sem, v0, v1, v2]) rfl ⟨_, ys, rfl, rfl, HN9.out, HF9.out⟩
end Go.Proofs.YtjeamfoicpgkhaaGreatDoor.RefTs

/- The reference's taker: entries. -/
namespace Go.Proofs.YtjeamfoicpgkhaaGreatDoor.RefTs
open Go.RowKit Go.Lib Go.Proofs.YtjeamfoicpgkhaaGreatDoor.Mem Go.Proofs.YtjeamfoicpgkhaaGreatDoor.Dec Go.Proofs.YtjeamfoicpgkhaaGreatDoor.Take Go.Proofs.YtjeamfoicpgkhaaGreatDoor.Tree Go.Proofs.YtjeamfoicpgkhaaGreatDoor.Data Go.Proofs.YtjeamfoicpgkhaaGreatDoor.Pk Go.Proofs.YtjeamfoicpgkhaaGreatDoor.OwnR Go.Proofs.YtjeamfoicpgkhaaGreatDoor.PkR Go.Proofs.YtjeamfoicpgkhaaGreatDoor.CompR Go.Proofs.YtjeamfoicpgkhaaGreatDoor.MsgR Go.Proofs.YtjeamfoicpgkhaaGreatDoor.Each Go.Proofs.YtjeamfoicpgkhaaGreatDoor.EachS Go.Proofs.YtjeamfoicpgkhaaGreatDoor.TakeE Go.Proofs.YtjeamfoicpgkhaaGreatDoor.RefTaker Go.Proofs.YtjeamfoicpgkhaaGreatDoor.RefTk
open Go.Proofs.YtjeamfoicpgkhaaGreatDoor.TakeS (TS)
set_option linter.unusedVariables false
set_option linter.unusedSimpArgs false
theorem step_eq {t : List UInt8} {p s1 s2 s3 s4 s5 s6 : SF} {x1 x2 x3 x4 x5 : Int} {ks : List Int} (h1 : digF 44 t p = (x1, s1)) (h2 : digF 44 t s1 = (x2, s2)) (h3 : digF 44 t s2 = (x3, s3)) (h4 : digF 44 t s3 = (x4, s4)) (h5 : digF 44 t s4 = (x5, s5)) (h6 : numsF t s5 = (ks, s6)) : stepF t p = (⟨x1, x2, x3, x4, x5, ks⟩, s6) := by
  unfold stepF
  simp only [h1, h2, h3, h4, h5, h6]
theorem entry_eq {t : List UInt8} {p s1 s2 s3 s4 : SF} {x1 x2 : Int} {cs : List CompD} {ss : List StepD} (h1 : digF 44 t p = (x1, s1)) (h2 : digF 44 t s1 = (x2, s2)) (h3 : compsX t s2 = (cs, s3)) (h4 : rowF (stepF t) t s3 = (ss, s4)) : entryF t p = (⟨x1, x2, cs, ss⟩, s4) := by
  unfold entryF
  simp only [h1, h2, h3, h4]
def eZ2 : Array Value := #[.int .i64 0, .int .i64 0, .slice none 0 0, .slice none 0 0]
def EntryX (S : ByteArray) (w : World) (b : Nat) (t : EntryD) (s : SF) (e : Ending) (w' : World) : Prop := ∃ ev dv, e = .returned (.agg #[.int .i64 t.client, .int .i64 t.seq, ev, dv]) ∧ subE w.heap.size w' (t, ev, dv) ∧ FK S w b s w'
set_option maxHeartbeats 8000000 in
set_option maxRecDepth 100000 in
theorem entry_x (S : ByteArray) (hS : S.size ≤ 140737488355328) (w : World) (b : Nat) (p : SF) (h : FRep S w b p) (hp : p.1 ≤ S.size) {t : EntryD} {sT : SF} (hT : entryF S.data.toList p = (t, sT)) : Calls Tryz.prog 51 #[.pointer (some ⟨b, 0, none⟩)] w (EntryX S w b t sT) := by
  obtain ⟨x1, s1, h1⟩ : ∃ x s', digF 44 S.data.toList p = (x, s') := ⟨_, _, rfl⟩
  obtain ⟨x2, s2, h2⟩ : ∃ x s', digF 44 S.data.toList s1 = (x, s') := ⟨_, _, rfl⟩
  obtain ⟨cs, s0, h0⟩ : ∃ x s', compsX S.data.toList s2 = (x, s') := ⟨_, _, rfl⟩
  obtain ⟨x3, s3, h3⟩ : ∃ x s', countF S.data.toList s0 = (x, s') := ⟨_, _, rfl⟩
  have hcn := countF_num S.data.toList s0
  rw [h3] at hcn
  obtain ⟨K, rfl⟩ := Int.eq_ofNat_of_zero_le hcn.1
  have hK : (K : Int) ≤ 1000000000 := hcn.2
  have HRw : Hid (rowF (stepF S.data.toList) S.data.toList s0 = eachF (stepF S.data.toList) K s3) := Lib.hid (by unfold rowF; rw [h3]; simp)
  have HT : Hid (∀ ns s, eachF (stepF S.data.toList) K s3 = (ns, s) → t = ⟨x1, x2, cs, ns⟩ ∧ sT = s) := Lib.hid fun ns s he => by
    have := entry_eq h1 h2 h0 (HRw.out.trans he)
    rw [hT] at this
    injection this with e1 e2
    exact ⟨e1, e2⟩
  have D0 := Lib.hid h0
  have D1 := Lib.hid h1
  have D2 := Lib.hid h2
  have D3 := Lib.hid h3
  have H0 := Lib.hid ((FK.start h hp).no (Step.alloc (Step.refl No w) (.cells eZ2 TE)))
  have HR0 := Lib.hid (blk_new w (.cells eZ2 TE))
  have hz : w.heap.size ≤ (w.alloc (.cells eZ2 TE)).heap.size := by simp
  have HRn : Hid (w.heap.size < (w.alloc (.cells eZ2 TE)).heap.size) := Lib.hid (by simp)
  simp only [eZ2] at H0 HR0 hz HRn
  clear h hp hT h0 h1 h2 h3 hcn
  go_enter Tryz.func51, Tryz.ntmps51
  go_wp2_with fail
  generalize hW : World.alloc w _ = w1 at *
  generalize hR : w.heap.size = R at *
  have HRe := Lib.hid hR
  clear hW hR
  refine (num_x hS H0.out D1.out).mono ?_
  rintro e w2 ⟨rfl, hk⟩
  have HB := Lib.hid (EY.born (T := TE) (H0.out.then hk) hk.step (by rw [HRe.out]; exact hz) #[.int .i64 x1, .int .i64 0, .slice none 0 0, .slice none 0 0])
  clear hk
  go_wp2_with fail
  generalize hW : World.alloc w2 _ = w3 at *
  generalize w2.heap.size = X at *
  clear hW
  refine (num_x hS HB.out.fk D2.out).mono ?_
  rintro e wn ⟨rfl, hk⟩
  have HX := Lib.hid (HB.out.next (by decide) hk)
  clear hk HB
  have HB := Lib.hid (HX.out.store (by decide) 1 (.int .i64 x2))
  have d := blk_cell HX.out.y 1
  have f := blk_free HX.out.y 1
  simp at d HB
  clear HX
  go_wp2_with fail
  generalize hW : World.setCell wn _ _ = wm at *
  clear hW d f
  refine (comps_y hS HB.out.fk D0.out).mono ?_
  rintro e wn ⟨cv, rfl, hc, hk⟩
  obtain ⟨Ac, nc, cc, rfl⟩ := comps_slice hc
  have HY := Lib.hid (HB.out.next (by decide) hk)
  have HC := Lib.hid (comps_go hc (w' := wn.setCell ⟨X, 2, none⟩ (.slice Ac nc cc)) (F := fun k => k = X) (by refine set_at (Step.refl _ _) ?_ _ <;> rfl) (Types.at HY.out.y (by decide)))
  have HZ0 := Lib.hid (HB.out.step.size)
  clear hk HB hc
  have HB := Lib.hid (HY.out.store (by decide) 2 (.slice Ac nc cc))
  have d := blk_cell HY.out.y 2
  have f := blk_free HY.out.y 2
  simp at d HB
  clear HY
  go_wp2_with fail
  generalize hW : World.setCell wn _ _ = wm at *
  clear hW d f
  refine (count_x hS HB.out.fk D3.out).mono ?_
  rintro e w4 ⟨rfl, hk⟩
  have HB4 := Lib.hid (HB.out.next (by decide) hk)
  have HC4 := Lib.hid (comps_base (comps_go HC.out hk.step (HB.out.fk.types (by decide))) HZ0.out)
  clear hk HB HC HZ0
  go_wp2
  go_loopw [5] (fun i wr => ∃ (k : Nat) (ys : List (StepD × Value)) (v : Value) (s : SF), k ≤ K ∧ i = .int .i64 k ∧ ys.length = k ∧ EY TE S w w1 b X #[.int .i64 x1, .int .i64 x2, .slice Ac nc cc, v] s wr ∧ CompsW w1.heap.size wr cs (.slice Ac nc cc) ∧ StepsW w1.heap.size wr ys v ∧ eachF (stepF S.data.toList) K s3 = (ys.map (·.1) ++ (eachF (stepF S.data.toList) (K - k) s).1, (eachF (stepF S.data.toList) (K - k) s).2)) (fun i _ => K - (RowKit.intOf i).toNat)
  case atStart => exact ⟨0, [], _, s3, Nat.zero_le _, rfl, rfl, HB4.out, HC4.out, RowO.nil _, by simp⟩
  case round =>
    obtain ⟨k, ys, v, s, hkK, rfl, hyl, hX, hC, hN, he⟩ := hrel
    subst hyl
    obtain ⟨A, c, rfl, -, -⟩ := row_slice hN.1
    obtain ⟨c0, c1, c2', f1, f2⟩ := f_cells hX.fk.rep
    have HX := Lib.hid hX
    have HC := Lib.hid hC
    have HN := Lib.hid hN
    have HE := Lib.hid he
    clear hX hC hN he
    by_cases hlt : ys.length < K
    · have hi1 : (ys.length : Int) < K := by omega
      by_cases hx : s.2 = true
      · rw [hx] at c2'
        have HXt := Lib.hid hx
        clear hx
        have hst := each_stop HE.out (.inr HXt.out)
        obtain ⟨rfl, rfl⟩ := HT.out _ _ hst
        have hq := HX.out.step.blk HR0.out (blk_ne HR0.out H0.out.blk (by decide))
        have hsz : w1.heap.size ≤ X := HX.out.le
        have hRn := HRn.out
        have hne : ¬ R = X := by omega
        have hne2 : ¬ X = R := fun e => hne e.symm
        have e0 := blk_cell HX.out.y 0
        have e1 := blk_cell HX.out.y 1
        have e2 := blk_cell HX.out.y 2
        have e3 := blk_cell HX.out.y 3
        have q0 := blk_cell hq 0
        have q1 := blk_cell hq 1
        have q2 := blk_cell hq 2
        have q3 := blk_cell hq 3
        have r0 := blk_free hq 0
        have r1 := blk_free hq 1
        have r2 := blk_free hq 2
        have r3 := blk_free hq 3
        simp at e0 e1 e2 e3 q0 q1 q2 q3
        have hD := sets_blk [.int .i64 x1, .int .i64 x2, .slice Ac nc cc, .slice A ys.length c] [] [.int .i64 0, .int .i64 0, .slice none 0 0, .slice none 0 0] wr (by simpa using hq) rfl
        have hS := sets_step R [.int .i64 x1, .int .i64 x2, .slice Ac nc cc, .slice A ys.length c] wr 0
        have HN9 := Lib.hid (show subE w.heap.size _ (⟨x1, x2, cs, ys.map (·.1)⟩, .slice Ac nc cc, .slice A ys.length c) from ⟨comps_base (comps_go HC.out hS (Types.at hq (by decide))) HX.out.base, ys, rfl, steps_base (steps_go HN.out hS (Types.at hq ⟨by decide, by decide⟩)) HX.out.base⟩)
        have HF9 : Hid (FK S w b sT (sets wr R 0 [.int .i64 x1, .int .i64 x2, .slice Ac nc cc, .slice A ys.length c])) := Lib.hid ⟨hS.blk HX.out.fk.rep (blk_ne HX.out.fk.blk hq (by decide)), HX.out.fk.far, HX.out.fk.step.trans hS (fun k f hk => absurd f (by have := HRe.out; omega))⟩
        have HD := Lib.hid hD
        simp only [sets, List.length_nil, List.nil_append, Nat.reduceAdd] at HD HN9 HF9
        clear hq hD hS hsz hRn hst
        go_wp2
        generalize World.setCell (World.setCell (World.setCell (World.setCell wr ⟨R, 0, none⟩ _) ⟨R, 1, none⟩ _) ⟨R, 2, none⟩ _) ⟨R, 3, none⟩ _ = W at *
        have v0 := blk_cell HD.out 0
        have v1 := blk_cell HD.out 1
        have v2 := blk_cell HD.out 2
        have v3 := blk_cell HD.out 3
        simp at v0 v1 v2 v3
        exact bodyPost_ret (by simp [results, Tryz.results51, go_sem, v0, v1, v2, v3]) rfl ⟨_, _, rfl, HN9.out, HF9.out⟩
      · obtain ⟨q, x⟩ := s
        obtain rfl : x = false := by simpa using hx
        clear hx
        obtain ⟨y1, t1, g1⟩ : ∃ x s', digF 44 S.data.toList (q, false) = (x, s') := ⟨_, _, rfl⟩
        obtain ⟨y2, t2, g2⟩ : ∃ x s', digF 44 S.data.toList t1 = (x, s') := ⟨_, _, rfl⟩
        obtain ⟨y3, t3, g3⟩ : ∃ x s', digF 44 S.data.toList t2 = (x, s') := ⟨_, _, rfl⟩
        obtain ⟨y4, t4, g4⟩ : ∃ x s', digF 44 S.data.toList t3 = (x, s') := ⟨_, _, rfl⟩
        obtain ⟨y5, t5, g5⟩ : ∃ x s', digF 44 S.data.toList t4 = (x, s') := ⟨_, _, rfl⟩
        obtain ⟨ks, t6, g6⟩ : ∃ x s', numsF S.data.toList t5 = (x, s') := ⟨_, _, rfl⟩
        have HNd := Lib.hid (step_eq g1 g2 g3 g4 g5 g6)
        have G1 := Lib.hid g1
        have G2 := Lib.hid g2
        have G3 := Lib.hid g3
        have G4 := Lib.hid g4
        have G5 := Lib.hid g5
        have G6 := Lib.hid g6
        have hm9 : ys.length + 1 ≤ maxLen := by unfold maxLen; omega
        have hb9 : (ys.length + 1) * 64 ≤ 140737488355328 := by omega
        clear g1 g2 g3 g4 g5 g6
        go_wp2_with fail
        refine (num_x hS HX.out.fk G1.out).mono ?_
        rintro e wa ⟨rfl, hk⟩
        have HB := Lib.hid (EY.born (w := w) (T := TS) (HX.out.fk.then hk) hk.step (Nat.le_trans HX.out.base HX.out.step.size) #[.int .i64 y1, .int .i64 0, .int .i64 0, .int .i64 0, .int .i64 0, .slice none 0 0])
        clear hk c0 c1 c2' f1 f2
        go_wp2_with fail
        generalize hW : World.alloc wa _ = wb at *
        generalize wa.heap.size = Y at *
        clear hW
        refine (num_x hS HB.out.fk G2.out).mono ?_
        rintro e wn ⟨rfl, hk⟩
        have HX := Lib.hid (HB.out.next (by decide) hk)
        clear hk HB
        have HB := Lib.hid (HX.out.store (by decide) 1 (.int .i64 y2))
        have d := blk_cell HX.out.y 1
        have f := blk_free HX.out.y 1
        simp at d HB
        clear HX
        go_wp2_with fail
        generalize hW : World.setCell wn _ _ = wm at *
        clear hW d f
        refine (num_x hS HB.out.fk G3.out).mono ?_
        rintro e wn ⟨rfl, hk⟩
        have HX := Lib.hid (HB.out.next (by decide) hk)
        clear hk HB
        have HB := Lib.hid (HX.out.store (by decide) 2 (.int .i64 y3))
        have d := blk_cell HX.out.y 2
        have f := blk_free HX.out.y 2
        simp at d HB
        clear HX
        go_wp2_with fail
        generalize hW : World.setCell wn _ _ = wm at *
        clear hW d f
        refine (num_x hS HB.out.fk G4.out).mono ?_
        rintro e wn ⟨rfl, hk⟩
        have HX := Lib.hid (HB.out.next (by decide) hk)
        clear hk HB
        have HB := Lib.hid (HX.out.store (by decide) 3 (.int .i64 y4))
        have d := blk_cell HX.out.y 3
        have f := blk_free HX.out.y 3
        simp at d HB
        clear HX
        go_wp2_with fail
        generalize hW : World.setCell wn _ _ = wm at *
        clear hW d f
        refine (num_x hS HB.out.fk G5.out).mono ?_
        rintro e wn ⟨rfl, hk⟩
        have HX := Lib.hid (HB.out.next (by decide) hk)
        clear hk HB
        have HB := Lib.hid (HX.out.store (by decide) 4 (.int .i64 y5))
        have d := blk_cell HX.out.y 4
        have f := blk_free HX.out.y 4
        simp at d HB
        clear HX
        go_wp2_with fail
        generalize hW : World.setCell wn _ _ = wm at *
        clear hW d f
        refine (nums_x hS HB.out.fk G6.out).mono ?_
        rintro e wn ⟨kv, rfl, hi, hk⟩
        obtain ⟨Ak, nk, ck, rfl⟩ := ints_slice hi
        have HY := Lib.hid (HB.out.next (by decide) hk)
        have HZ := Lib.hid (HB.out.step.size)
        clear hk HB
        have HB := Lib.hid (HY.out.store (by decide) 5 (.slice Ak nk ck))
        have HI := Lib.hid (CopyM.ints_at hi (w' := wn.setCell ⟨Y, 5, none⟩ (.slice Ak nk ck)) (b := Y) (by refine set_at (Step.refl _ _) ?_ _ <;> rfl) HY.out.y (by decide))
        have d := blk_cell HY.out.y 5
        have f := blk_free HY.out.y 5
        simp at d HB
        clear HY hi
        go_upto_region 14 with (fail)
        generalize hW : World.setCell wn _ _ = wm at *
        clear hW d f
        have HX2 := Lib.hid (HX.out.beside (by decide) HB.out)
        have HN2 := Lib.hid (steps_go HN.out HB.out.step (HX.out.fk.types ⟨by decide, by decide⟩))
        have HC2 := Lib.hid (comps_go HC.out HB.out.step (HX.out.fk.types (by decide)))
        have HI2 := Lib.hid (ints_base HI.out (Nat.le_trans HX.out.step.size HZ.out))
        have e0 := blk_cell HB.out.y 0
        have e1 := blk_cell HB.out.y 1
        have e2 := blk_cell HB.out.y 2
        have e3 := blk_cell HB.out.y 3
        have e4 := blk_cell HB.out.y 4
        have e5 := blk_cell HB.out.y 5
        simp at e0 e1 e2 e3 e4 e5
        have b2 := blk_cell HX2.out.y 3
        simp at b2
        have HI5 := Lib.hid (ints_new HI2.out (.cells #[.int .i64 y1, .int .i64 y2, .int .i64 y3, .int .i64 y4, .int .i64 y5, .slice Ak nk ck] TS))
        have HO5 := Lib.hid (RowO.no (stabS _) HN2.out (Step.alloc (Step.refl No wm) (.cells #[.int .i64 y1, .int .i64 y2, .int .i64 y3, .int .i64 y4, .int .i64 y5, .slice Ak nk ck] TS)))
        have HC5 := Lib.hid (RowO.no (stabC _) HC2.out (Step.alloc (Step.refl No wm) (.cells #[.int .i64 y1, .int .i64 y2, .int .i64 y3, .int .i64 y4, .int .i64 y5, .slice Ak nk ck] TS)))
        have HZ5 : Hid (w1.heap.size ≤ (wm.alloc (.cells #[.int .i64 y1, .int .i64 y2, .int .i64 y3, .int .i64 y4, .int .i64 y5, .slice Ak nk ck] TS)).heap.size) := Lib.hid (Nat.le_trans HX2.out.step.size (by simp))
        go_wp2_with (at_builtin; go_loud (refine list_append_own _ rfl (.tmp 49) (.tmp 51) 52 51 _ 6 64 rfl Tryz.underlying52 infoS rfl (by decide) (.slice A ys.length c) ys.length (ys.flatMap encS) rfl (by exact HO5.out.1) ⟨wm.heap.size, 0, none⟩ 1 1 [.int .i64 y1, .int .i64 y2, .int .i64 y3, .int .i64 y4, .int .i64 y5, .slice Ak nk ck] rfl rfl (by exact cells_new wm #[.int .i64 y1, .int .i64 y2, .int .i64 y3, .int .i64 y4, .int .i64 y5, .slice Ak nk ck] TS) (by simp [Value.oneCell']) hm9 hb9 ?_; intro v5 w5 hown hg hat; have hX5 := HX2.out.grown HN2.out.1 (by decide) (by decide) HN2.out.2.1 hg; have b5 := (show w5.cell? ⟨X, 3, none⟩ = some (.slice A ys.length c) from blk_cell hX5.y 3); have f5 := blk_free hX5.y 3; have HR5 := Lib.hid (steps_go (RowO.next (stabS _) (tsI (by decide)) HO5.out HZ5.out (x := (⟨y1, y2, y3, y4, y5, ks⟩, .slice Ak nk ck)) HI5.out hown hg hat) (w' := w5.setCell ⟨X, 3, none⟩ v5) (F := fun k => k = X) (by refine set_at (Step.refl _ _) ?_ _ <;> rfl) (Types.at hX5.y ⟨by decide, by decide⟩)); have HC6 := Lib.hid (comps_go (comps_go HC5.out ((Step.refl (fun k => (Value.slice A ys.length c).ownBlock = some k) _).grown hg (fun k hk _ => hk)) (Types.row HO5.out.1 (by decide))) (w' := w5.setCell ⟨X, 3, none⟩ v5) (F := fun k => k = X) (by refine set_at (Step.refl _ _) ?_ _ <;> rfl) (Types.at hX5.y (by decide))); have HX5 := Lib.hid (hX5.store (by decide) 3 v5); obtain ⟨A5, c5, rfl, -, -⟩ := row_slice hown; clear hown hg hat hX5))
        go_roundw
        case rel => exact ⟨ys.length + 1, ys ++ [(⟨y1, y2, y3, y4, y5, ks⟩, .slice Ak nk ck)], _, t6, hlt, by go_num, by simp, HX5.out, HC6.out, HR5.out, each_more HE.out hlt HNd.out⟩
        case measure => simp [RowKit.intOf]; omega
    · have hi1 : ¬ (ys.length : Int) < K := by omega
      have hst := each_stop HE.out (.inl (by omega))
      obtain ⟨rfl, rfl⟩ := HT.out _ _ hst
      have hq := HX.out.step.blk HR0.out (blk_ne HR0.out H0.out.blk (by decide))
      have hsz : w1.heap.size ≤ X := HX.out.le
      have hRn := HRn.out
      have hne : ¬ R = X := by omega
      have hne2 : ¬ X = R := fun e => hne e.symm
      have e0 := blk_cell HX.out.y 0
      have e1 := blk_cell HX.out.y 1
      have e2 := blk_cell HX.out.y 2
      have e3 := blk_cell HX.out.y 3
      have q0 := blk_cell hq 0
      have q1 := blk_cell hq 1
      have q2 := blk_cell hq 2
      have q3 := blk_cell hq 3
      have r0 := blk_free hq 0
      have r1 := blk_free hq 1
      have r2 := blk_free hq 2
      have r3 := blk_free hq 3
      simp at e0 e1 e2 e3 q0 q1 q2 q3
      have hD := sets_blk [.int .i64 x1, .int .i64 x2, .slice Ac nc cc, .slice A ys.length c] [] [.int .i64 0, .int .i64 0, .slice none 0 0, .slice none 0 0] wr (by simpa using hq) rfl
      have hS := sets_step R [.int .i64 x1, .int .i64 x2, .slice Ac nc cc, .slice A ys.length c] wr 0
      have HN9 := Lib.hid (show subE w.heap.size _ (⟨x1, x2, cs, ys.map (·.1)⟩, .slice Ac nc cc, .slice A ys.length c) from ⟨comps_base (comps_go HC.out hS (Types.at hq (by decide))) HX.out.base, ys, rfl, steps_base (steps_go HN.out hS (Types.at hq ⟨by decide, by decide⟩)) HX.out.base⟩)
      have HF9 : Hid (FK S w b sT (sets wr R 0 [.int .i64 x1, .int .i64 x2, .slice Ac nc cc, .slice A ys.length c])) := Lib.hid ⟨hS.blk HX.out.fk.rep (blk_ne HX.out.fk.blk hq (by decide)), HX.out.fk.far, HX.out.fk.step.trans hS (fun k f hk => absurd f (by have := HRe.out; omega))⟩
      have HD := Lib.hid hD
      simp only [sets, List.length_nil, List.nil_append, Nat.reduceAdd] at HD HN9 HF9
      clear hq hD hS hsz hRn hst
      go_wp2
      generalize World.setCell (World.setCell (World.setCell (World.setCell wr ⟨R, 0, none⟩ _) ⟨R, 1, none⟩ _) ⟨R, 2, none⟩ _) ⟨R, 3, none⟩ _ = W at *
      have v0 := blk_cell HD.out 0
      have v1 := blk_cell HD.out 1
      have v2 := blk_cell HD.out 2
      have v3 := blk_cell HD.out 3
      simp at v0 v1 v2 v3
      exact bodyPost_ret (by simp [results, Tryz.results51, go_sem, v0, v1, v2, v3]) rfl ⟨_, _, rfl, HN9.out, HF9.out⟩
end Go.Proofs.YtjeamfoicpgkhaaGreatDoor.RefTs
