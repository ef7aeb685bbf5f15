/- A writer of packed texts: rows of numbers, pieces of edits. -/
import Derived.Test.YtjeamfoicpgkhaaGreatDoorWriter
import Derived.Test.YtjeamfoicpgkhaaGreatDoorLumpA
import Derived.Test.YtjeamfoicpgkhaaGreatDoorLumpB
namespace Go.Proofs.YtjeamfoicpgkhaaGreatDoor.Writer
open Go.RowKit Go.Lib Go.Proofs.YtjeamfoicpgkhaaGreatDoor.Mem Go.Proofs.YtjeamfoicpgkhaaGreatDoor.Build Go.Proofs.YtjeamfoicpgkhaaGreatDoor.Env Go.Proofs.YtjeamfoicpgkhaaGreatDoor.Take Go.Proofs.YtjeamfoicpgkhaaGreatDoor.Read Go.Proofs.YtjeamfoicpgkhaaGreatDoor.Tree Go.Proofs.YtjeamfoicpgkhaaGreatDoor.Data Go.Proofs.YtjeamfoicpgkhaaGreatDoor.CompR Go.Proofs.YtjeamfoicpgkhaaGreatDoor.MsgR Go.Proofs.YtjeamfoicpgkhaaGreatDoor.Pk
set_option linter.unusedVariables false
set_option linter.unusedSimpArgs false
abbrev TI : TypeId := 3
/-- What a call may turn that is made where wr was, with what was laid since kept. -/
def Snap (ok : Nat → Prop) (w : World) (n : Nat) (k : Nat) : Prop := (ok k ∨ w.heap.size ≤ k) ∧ k < n
theorem WS.rep {ok : Nat → Prop} {w wr wa : World} {b : Nat} {l : List UInt8} (h : WS ok w wr b l) (ha : Step No wr wa) : WRep (Snap ok w wr.heap.size) wa b l :=
  (h.1.mono (ok' := Snap ok w wr.heap.size) (fun k hk o => ⟨o, hk⟩)).step ha (fun _ _ _ f => f)
theorem WS.to {ok : Nat → Prop} {w wr wa w' : World} {b : Nat} {l : List UInt8} (h : WS ok w wr b l) (ha : Step No wr wa) (hs : Step (Snap ok w wr.heap.size) wa w') : Step ok w w' :=
  (h.2.trans ha (fun _ f _ => f.elim)).trans hs (fun i o hlt => o.1.elim id (fun o => absurd hlt (Nat.not_lt.2 o)))
theorem WS.env {ok : Nat → Prop} {w wr wa : World} {b : Nat} {l : List UInt8} (h : WS ok w wr b l) (hE : EnvS ok w) (ha : Step No wr wa) : EnvS (Snap ok w wr.heap.size) wa := fun w' hs => hE w' (h.to ha hs)
theorem WS.back {ok : Nat → Prop} {w wr wa w' : World} {b : Nat} {l l' : List UInt8} {r : Value} {e : Ending} (h : WS ok w wr b l) (ha : Step No wr wa) (hp : WPost (Snap ok w wr.heap.size) wa b r l' e w') : e = .returned r ∧ WS ok w w' b l' :=
  ⟨hp.1, hp.2.1.mono (fun k _ o => o.elim (fun o => o.1) (fun o => .inr (Nat.le_trans h.2.size (Nat.le_trans ha.size o)))), h.to ha hp.2.2⟩
theorem snap_far {ok : Nat → Prop} {w : World} {n k : Nat} (h : n ≤ k) : ¬ Snap ok w n k := fun e => absurd e.2 (Nat.not_lt.2 h)
theorem ints_blk {w : World} {g : Nat} {xs : List Int} {T : TypeId} (h : w.heap[g]? = some (.cells (ints xs).toArray T (0, 0))) (hz : xs.length ≤ maxLen) : SlR 1 intR w xs (.slice (some ⟨g, 0, none⟩) xs.length xs.length) := by
  refine ⟨some ⟨g, 0, none⟩, xs.length, rfl, Nat.le_refl _, hz, fun j hj => ?_⟩
  refine ⟨⟨g, 0, none⟩, [.int .i64 xs[j]], rfl, rfl, rfl, fun i u hu => ?_⟩
  have hi : i = 0 := by
    have := (List.getElem?_eq_some_iff.1 hu).1
    simpa using this
  subst hi
  rw [show (⟨g, 0, none⟩ : Addr).add (j * 1 + 0) = ⟨g, j, none⟩ by unfold Addr.add; split <;> simp_all, blk_cell h]
  simp only [List.getElem?_cons_zero, Option.some.injEq] at hu
  subst hu
  simp [ints, hj]
/-- Numbers that were just laid in a row. -/
theorem NumNew_any {ok : Nat → Prop} {w wr wa : World} {b : Nat} {l : List UInt8} (h : WS ok w wr b l) (hE : EnvS ok w) (ha : Step No wr wa) (xs : List Int) (g : Nat) (hg : wr.heap.size ≤ g) (hb : wa.heap[g]? = some (.cells (ints xs).toArray TI (0, 0))) (hr : ∀ x ∈ xs, Rng x) (hl : l.length ≤ 100000000000000) (hn : xs.length ≤ 1000) :
    Calls Tryz.prog 35 #[.pointer (some ⟨b, 0, none⟩), .slice (some ⟨g, 0, none⟩) xs.length xs.length] wa fun e w' => e = .returned (.tuple #[]) ∧ WS ok w w' b (l ++ nums xs) ∧ Step (Snap ok w wr.heap.size) wa w' := by
  refine (Num_any _ _ b l xs (some ⟨g, 0, none⟩) xs.length (h.rep ha) (h.env hE ha) (fun w' hst => ?_) hr (by omega)).mono fun e w' hp => ?_
  · exact ints_blk (hst.blk hb (snap_far hg)) (by unfold maxLen; omega)
  · obtain ⟨h1, h2⟩ := h.back ha hp
    exact ⟨h1, h2, hp.2.2⟩
theorem at2 (w : World) (o o' : Obj) : ((w.alloc o).alloc o').heap[w.heap.size + 1]? = some o' := by
  have := blk_new (w.alloc o) o'
  simpa using this
theorem rng_nil : ∀ y ∈ ([] : List Int), Rng y := fun y h => absurd h (by simp)
theorem rng_cons {x : Int} {xs : List Int} (h : Rng x) (t : ∀ y ∈ xs, Rng y) : ∀ y ∈ x :: xs, Rng y := fun y hy => (List.mem_cons.1 hy).elim (fun e => e ▸ h) (t y)
theorem ret_pair {ok : Nat → Prop} {w wr : World} {b : Nat} {l l' : List UInt8} (h : WS ok w wr b l) (e : l = l') : WPost ok w b (.tuple #[]) l' (.returned (.tuple #[])) wr := by subst e; exact h.post
set_option maxHeartbeats 2000000 in
theorem row_any (ok : Nat → Prop) (w : World) (b : Nat) (l : List UInt8) (ks : List Int) (kv : Value) (h : WRep ok w b l) (hE : EnvS ok w) (hx : ∀ w', Step ok w w' → SlR 1 intR w' ks kv) (hr : ∀ x ∈ ks, Rng x) (hl : l.length ≤ 100000000000000) (hn : ks.length ≤ 1000000000000) :
    Calls Tryz.prog 86 #[.pointer (some ⟨b, 0, none⟩), kv] w (WPost ok w b (.tuple #[]) (l ++ row ks)) := by
  obtain ⟨A, c, rfl, -, -⟩ := ints_len (hx w (Step.refl _ _))
  have HW := Lib.hid (WS.start h)
  have hRn : Rng (ks.length : Int) := ⟨by omega, by omega⟩
  have HhE := Lib.hid hE
  have Hhx := Lib.hid hx
  have Hhr := Lib.hid hr
  have Hh := Lib.hid h
  have HhRn := Lib.hid hRn
  clear hE hx hr h hRn
  have ha : Step No w (w.alloc (.cells #[.int .i64 ks.length] TI)) := (by repeat' (first | exact Step.refl _ _ | with_reducible assumption | refine Step.drew ?_ | refine Step.drewN ?_ _ | refine Step.alloc ?_ _))
  go_enter Tryz.func86, Tryz.ntmps86
  go_wp2_with fail
  refine (NumNew_any HW.out HhE.out ha [(ks.length : Int)] w.heap.size (Nat.le_refl _) (by exact blk_new _ _) (rng_cons HhRn.out rng_nil) hl (by simp)).mono ?_
  rintro e w2 ⟨rfl, hw2, -⟩
  have Hhw2 := Lib.hid hw2
  clear hw2
  go_wp2_with fail
  refine (Num_any _ _ b _ ks A c (Hhw2.out.rep (Step.refl _ _)) (Hhw2.out.env HhE.out (Step.refl _ _)) (fun w' hst => Hhx.out w' (Hhw2.out.to (Step.refl _ _) hst)) Hhr.out (by have := nums_len [(ks.length : Int)] (rng_cons HhRn.out rng_nil); rw [List.length_append]; simp only [List.length_cons, List.length_nil] at this; omega)).mono ?_
  rintro e w3 hp
  obtain ⟨rfl, hw3⟩ := Hhw2.out.back (Step.refl _ _) hp
  have Hhw3 := Lib.hid hw3
  clear hw3
  clear hp
  go_wp2
  go_end0
  exact ret_pair Hhw3.out (by simp [row, nums])
theorem take_flat {α β : Type} (f : α → List β) (xs : List α) (k : Nat) (h : k < xs.length) : (xs.take (k + 1)).flatMap f = (xs.take k).flatMap f ++ f xs[k] := by
  rw [List.take_succ_eq_append_getElem h, List.flatMap_append, List.flatMap_cons, List.flatMap_nil, List.append_nil]
theorem take_flat_len {α β : Type} (f : α → List β) (xs : List α) (k : Nat) (h : k < xs.length) : ((xs.take k).flatMap f).length + (f xs[k]).length ≤ (xs.flatMap f).length := by
  have h1 : xs.flatMap f = (xs.take (k + 1)).flatMap f ++ (xs.drop (k + 1)).flatMap f := by rw [← List.flatMap_append, List.take_append_drop]
  rw [h1, List.length_append, take_flat f xs k h, List.length_append]
  omega
def FineC (c : CompD) : Prop := Rng c.n ∧ c.text.size ≤ 1000000000000
set_option maxHeartbeats 4000000 in
theorem edit_any (ok : Nat → Prop) (w : World) (b : Nat) (l : List UInt8) (cs : List CompD) (v : Value) (h : WRep ok w b l) (hE : EnvS ok w) (hx : ∀ w', Step ok w w' → CompsR w' cs v) (hF : ∀ c ∈ cs, FineC c) (hl : (l ++ editS cs).length ≤ 100000000000000) (hn : cs.length ≤ 1000000000000) :
    Calls Tryz.prog 36 #[.pointer (some ⟨b, 0, none⟩), v] w (WPost ok w b (.tuple #[]) (l ++ editS cs)) := by
  obtain ⟨A, c, rfl, -, -⟩ := comps_len (hx w (Step.refl _ _))
  have HW := Lib.hid (WS.start h)
  have hRn : Rng (cs.length : Int) := ⟨by omega, by omega⟩
  rw [List.length_append] at hl
  have HL : Hid (l.length + (editS cs).length ≤ 100000000000000) := Lib.hid hl
  have HL0 : Hid (l.length ≤ 100000000000000) := Lib.hid (by omega)
  have HhE := Lib.hid hE
  have Hhx := Lib.hid hx
  have HhF := Lib.hid hF
  have Hh := Lib.hid h
  have HhRn := Lib.hid hRn
  clear hE hx hF h hRn
  clear hl
  have ha : Step No w (w.alloc (.cells #[.int .i64 cs.length] TI)) := (by repeat' (first | exact Step.refl _ _ | with_reducible assumption | refine Step.drew ?_ | refine Step.drewN ?_ _ | refine Step.alloc ?_ _))
  go_enter Tryz.func36, Tryz.ntmps36
  go_wp2_with fail
  refine (NumNew_any HW.out HhE.out ha [(cs.length : Int)] w.heap.size (Nat.le_refl _) (by exact blk_new _ _) (rng_cons HhRn.out rng_nil) HL0.out (by simp)).mono ?_
  rintro e w2 ⟨rfl, hw2, -⟩
  have H2 : Hid (WS ok w w2 b (l ++ num cs.length ++ (cs.take 0).flatMap compS)) := Lib.hid (by simpa [nums] using hw2)
  clear hw2
  go_wp2
  go_loopw [13] (fun i wr => ∃ k : Nat, k ≤ cs.length ∧ i = .int .i64 k ∧ WS ok w wr b (l ++ num cs.length ++ (cs.take k).flatMap compS)) (fun i _ => cs.length - (RowKit.intOf i).toNat)
  case atStart => exact ⟨0, Nat.zero_le _, rfl, H2.out⟩
  case round =>
    obtain ⟨k, hk, rfl, hw⟩ := hrel
    by_cases hlt : k < cs.length
    · obtain ⟨ad, rfl, hz, c0, c1, c2⟩ := comps_cells (Hhx.out wr hw.2) k hlt
      have hi0 : (0 : Int) ≤ k := by omega
      have hi1 : (k : Int) < cs.length := by omega
      have HF := Lib.hid (HhF.out _ (List.getElem_mem hlt))
      have HT := Lib.hid (take_flat compS cs k hlt)
      have HTL := Lib.hid (take_flat_len compS cs k hlt)
      generalize cs[k] = x at *
      have HLm : Hid ((l ++ num cs.length ++ (cs.take k).flatMap compS).length + (compS x).length ≤ 100000000000000) := Lib.hid (by
        have h1 := HL.out
        have h2 := HTL.out
        unfold editS at h1
        simp only [List.length_append] at *
        omega)
      have HT2 : Hid (l ++ num cs.length ++ (cs.take (k + 1)).flatMap compS = (l ++ num cs.length ++ (cs.take k).flatMap compS) ++ compS x) := Lib.hid (by rw [HT.out, ← List.append_assoc])
      generalize l ++ num cs.length ++ (cs.take k).flatMap compS = m at *
      obtain ⟨q, n, t⟩ := x
      simp only at c0 c1 c2 hz
      have ha : Step No wr (wr.alloc (.cells #[.int .i64 q, .int .i64 n, .string t] TC)) := (by repeat' (first | exact Step.refl _ _ | with_reducible assumption | refine Step.drew ?_ | refine Step.drewN ?_ _ | refine Step.alloc ?_ _))
      have Hhw := Lib.hid hw
      clear hw
      by_cases k1 : q = 1
      · subst k1
        have HS : Hid (m ++ compS ⟨1, n, t⟩ = (m ++ [112]) ++ str t.data.toList) := Lib.hid (by simp [compS])
        have hS : (compS ⟨1, n, t⟩).length = 1 + (str t.data.toList).length := by simp [compS]; omega
        have HM : Hid (m.length + 1 ≤ 100000000000000) := Lib.hid (by have := HLm.out; omega)
        clear hS
        go_wp2_with fail
        refine (WriteByte_any _ _ b _ 112 (Hhw.out.rep ha) (by have := HM.out; omega)).mono ?_
        rintro e w3 hp
        obtain ⟨rfl, hw3⟩ := Hhw.out.back ha hp
        have d1 := hp.2.2.cell (show (wr.alloc (.cells #[.int .i64 1, .int .i64 n, .string t] TC)).cell? ⟨wr.heap.size, 1, none⟩ = some (.int .i64 n) from blk_cell (blk_new _ _) 1) (snap_far (Nat.le_refl _))
        have d2 := hp.2.2.cell (show (wr.alloc (.cells #[.int .i64 1, .int .i64 n, .string t] TC)).cell? ⟨wr.heap.size, 2, none⟩ = some (.string t) from blk_cell (blk_new _ _) 2) (snap_far (Nat.le_refl _))
        have Hw3 := Lib.hid hw3
        clear hp hw3
        go_wp2_with fail
        refine (Str_any _ _ b _ t (Hw3.out.rep (Step.refl _ _)) (Hw3.out.env HhE.out (Step.refl _ _)) (by have := HM.out; have := HF.out.2; simp only at this; rw [List.length_append, List.length_singleton]; omega)).mono ?_
        rintro e w4 hp
        obtain ⟨rfl, hw4⟩ := Hw3.out.back (Step.refl _ _) hp
        have Hw4 := Lib.hid hw4
        clear hp hw4
        go_wp2
        go_roundw
        case rel => exact ⟨k + 1, hlt, rfl, by rw [HT2.out, HS.out]; exact Hw4.out⟩
        case measure => simp [RowKit.intOf]; omega
      · have k1b : (q == 1) = false := beq_eq_false_iff_ne.2 k1
        by_cases k2 : q = 2
        · subst k2
          have HS : Hid (m ++ compS ⟨2, n, t⟩ = (m ++ [99]) ++ nums [n]) := Lib.hid (by simp [compS, nums])
          have hS : (compS ⟨2, n, t⟩).length = 1 + (num n).length := by simp [compS]; omega
          have HM : Hid (m.length + 1 ≤ 100000000000000) := Lib.hid (by have := HLm.out; omega)
          clear hS k1
          go_wp2_with fail
          refine (WriteByte_any _ _ b _ 99 (Hhw.out.rep ha) (by have := HM.out; omega)).mono ?_
          rintro e w3 hp
          obtain ⟨rfl, hw3⟩ := Hhw.out.back ha hp
          have d1 := hp.2.2.cell (show (wr.alloc (.cells #[.int .i64 2, .int .i64 n, .string t] TC)).cell? ⟨wr.heap.size, 1, none⟩ = some (.int .i64 n) from blk_cell (blk_new _ _) 1) (snap_far (Nat.le_refl _))
          have d2 := hp.2.2.cell (show (wr.alloc (.cells #[.int .i64 2, .int .i64 n, .string t] TC)).cell? ⟨wr.heap.size, 2, none⟩ = some (.string t) from blk_cell (blk_new _ _) 2) (snap_far (Nat.le_refl _))
          have Hw3 := Lib.hid hw3
          clear hp hw3
          have ha3 : Step No w3 (w3.alloc (.cells #[.int .i64 n] TI)) := (by repeat' (first | exact Step.refl _ _ | with_reducible assumption | refine Step.drew ?_ | refine Step.drewN ?_ _ | refine Step.alloc ?_ _))
          go_wp2_with fail
          refine (NumNew_any Hw3.out HhE.out ha3 [n] w3.heap.size (Nat.le_refl _) (by exact blk_new _ _) (rng_cons HF.out.1 rng_nil) (by have := HM.out; rw [List.length_append, List.length_singleton]; omega) (by simp)).mono ?_
          rintro e w4 ⟨rfl, hw4, -⟩
          have Hw4 := Lib.hid hw4
          clear hw4 ha3
          go_wp2
          go_roundw
          case rel => exact ⟨k + 1, hlt, rfl, by rw [HT2.out, HS.out]; exact Hw4.out⟩
          case measure => simp [RowKit.intOf]; omega
        · have k2b : (q == 2) = false := beq_eq_false_iff_ne.2 k2
          have HS : Hid (m ++ compS ⟨q, n, t⟩ = (m ++ [107]) ++ nums [n]) := Lib.hid (by simp [compS, nums, k1, k2])
          have hS : (compS ⟨q, n, t⟩).length = 1 + (num n).length := by simp [compS, k1, k2]; omega
          have HM : Hid (m.length + 1 ≤ 100000000000000) := Lib.hid (by have := HLm.out; omega)
          clear hS k1 k2
          go_wp2_with fail
          refine (WriteByte_any _ _ b _ 107 (Hhw.out.rep ha) (by have := HM.out; omega)).mono ?_
          rintro e w3 hp
          obtain ⟨rfl, hw3⟩ := Hhw.out.back ha hp
          have d1 := hp.2.2.cell (show (wr.alloc (.cells #[.int .i64 q, .int .i64 n, .string t] TC)).cell? ⟨wr.heap.size, 1, none⟩ = some (.int .i64 n) from blk_cell (blk_new _ _) 1) (snap_far (Nat.le_refl _))
          have d2 := hp.2.2.cell (show (wr.alloc (.cells #[.int .i64 q, .int .i64 n, .string t] TC)).cell? ⟨wr.heap.size, 2, none⟩ = some (.string t) from blk_cell (blk_new _ _) 2) (snap_far (Nat.le_refl _))
          have Hw3 := Lib.hid hw3
          clear hp hw3
          have ha3 : Step No w3 (w3.alloc (.cells #[.int .i64 n] TI)) := (by repeat' (first | exact Step.refl _ _ | with_reducible assumption | refine Step.drew ?_ | refine Step.drewN ?_ _ | refine Step.alloc ?_ _))
          go_wp2_with fail
          refine (NumNew_any Hw3.out HhE.out ha3 [n] w3.heap.size (Nat.le_refl _) (by exact blk_new _ _) (rng_cons HF.out.1 rng_nil) (by have := HM.out; rw [List.length_append, List.length_singleton]; omega) (by simp)).mono ?_
          rintro e w4 ⟨rfl, hw4, -⟩
          have Hw4 := Lib.hid hw4
          clear hw4 ha3
          go_wp2
          go_roundw
          case rel => exact ⟨k + 1, hlt, rfl, by rw [HT2.out, HS.out]; exact Hw4.out⟩
          case measure => simp [RowKit.intOf]; omega
    · obtain rfl : k = cs.length := by omega
      rw [List.take_length] at hw
      have Hhw := Lib.hid hw
      clear hw
      go_wp2
      go_end0
      exact ret_pair Hhw.out (by simp [editS])
end Go.Proofs.YtjeamfoicpgkhaaGreatDoor.Writer
