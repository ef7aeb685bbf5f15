/- awake of the laws on messages. -/
import Derived.Test.YtkamhpbfebdhjaaGreatDoorPkL
import Derived.Test.YtkamhpbfebdhjaaGreatDoorLumpA
import Derived.Test.YtkamhpbfebdhjaaGreatDoorSameM
namespace Go.Proofs.YtkamhpbfebdhjaaGreatDoor.PkAwake
open Go.RowKit Go.Lib Go.Proofs.YtkamhpbfebdhjaaGreatDoor.Mem Go.Proofs.YtkamhpbfebdhjaaGreatDoor.Read Go.Proofs.YtkamhpbfebdhjaaGreatDoor.Tree Go.Proofs.YtkamhpbfebdhjaaGreatDoor.Data Go.Proofs.YtkamhpbfebdhjaaGreatDoor.Env Go.Proofs.YtkamhpbfebdhjaaGreatDoor.Take Go.Proofs.YtkamhpbfebdhjaaGreatDoor.Pk Go.Proofs.YtkamhpbfebdhjaaGreatDoor.MsgR Go.Proofs.YtkamhpbfebdhjaaGreatDoor.CompR Go.Proofs.YtkamhpbfebdhjaaGreatDoor.May Go.Proofs.YtkamhpbfebdhjaaGreatDoor.TakeM Go.Proofs.YtkamhpbfebdhjaaGreatDoor.Get Go.Proofs.YtkamhpbfebdhjaaGreatDoor.PkL Go.Proofs.YtkamhpbfebdhjaaGreatDoor.PkA Go.Proofs.YtkamhpbfebdhjaaGreatDoor.Same Go.Proofs.YtkamhpbfebdhjaaGreatDoor.C13
open Go.Proofs.YtkamhpbfebdhjaaGreatDoor.Put (PutPost put_any)
open Go.Proofs.YtkamhpbfebdhjaaGreatDoor.MayLen (putOk)
set_option linter.unusedVariables false
set_option linter.unusedSimpArgs false
/-- A row that lies in a block of its own, word for word. -/
theorem sl_lit {α : Type} {sz : Nat} {R : World → α → List Value → Prop} {w : World} {xs : List α} {b : Nat} {cs : Array Value} {t : TypeId} (hb : w.heap[b]? = some (.cells cs t (0, 0))) (hm : xs.length ≤ maxLen)
    (h : ∀ (j : Nat) (hj : j < xs.length), ∃ ds : List Value, ds.length = sz ∧ R w xs[j] ds ∧ ∀ i u, ds[i]? = some u → cs[j * sz + i]? = some u) : SlR sz R w xs (.slice (some ⟨b, 0, none⟩) xs.length xs.length) := by
  refine ⟨_, _, rfl, Nat.le_refl _, hm, fun j hj => ?_⟩
  obtain ⟨ds, h1, h2, h3⟩ := h j hj
  refine ⟨_, ds, rfl, h1, h2, fun i u hu => ?_⟩
  have := h3 i u hu
  rw [show ((⟨b, 0, none⟩ : Addr).add (j * sz + i)) = ⟨b, j * sz + i, none⟩ by (generalize j * sz + i = q; simp [Addr.add]; exact fun e => e.symm), blk_cell hb, this]
theorem comps_lit {w : World} {xs : List CompD} {b : Nat} {cs : Array Value} {t : TypeId} (hb : w.heap[b]? = some (.cells cs t (0, 0))) (hm : xs.length ≤ maxLen)
    (h : ∀ (j : Nat) (hj : j < xs.length), cs[j * 3]? = some (.int .i64 xs[j].kind) ∧ cs[j * 3 + 1]? = some (.int .i64 xs[j].n) ∧ cs[j * 3 + 2]? = some (.string xs[j].text) ∧ xs[j].text.size ≤ maxLen) : CompsR w xs (.slice (some ⟨b, 0, none⟩) xs.length xs.length) :=
  sl_lit hb hm fun j hj => by
    obtain ⟨h0, h1, h2, hz⟩ := h j hj
    refine ⟨compCells xs[j], rfl, ⟨rfl, hz⟩, fun i u hu => ?_⟩
    match i, hu with
    | 0, hu => exact h0.trans hu
    | 1, hu => exact h1.trans hu
    | 2, hu => exact h2.trans hu
    | n + 3, hu => cases hu
theorem read_eA {w : World} {b : Nat} {t : TypeId} (hb : w.heap[b]? = some (.cells #[.int .i64 0, .int .i64 4, .string ⟨#[]⟩, .int .i64 1, .int .i64 0, .string ⟨#[97, 44]⟩, .int .i64 2, .int .i64 1, .string ⟨#[]⟩] t (0, 0))) : CompsR w eA (.slice (some ⟨b, 0, none⟩) 3 3) :=
  comps_lit (xs := eA) hb (by simp [eA, maxLen]) fun j hj => by
    match j, hj with
    | 0, _ => exact ⟨rfl, rfl, rfl, Nat.zero_le _⟩
    | 1, _ => exact ⟨rfl, rfl, rfl, by show 2 ≤ maxLen; unfold maxLen; decide⟩
    | 2, _ => exact ⟨rfl, rfl, rfl, Nat.zero_le _⟩
    | n + 3, h => exact absurd h (by simp [eA])
theorem mA_msg {w : World} {v : Value} (h : CompsR w eA v) : MsgR w mA v zV zV := ⟨h, sl_nil w, sl_nil w, Nat.zero_le _⟩
theorem empty_msg (w : World) (m : MsgD) (he : m.edit = []) (hn : m.entries = []) (ht : m.tree.nodes = []) (hx : m.text.size ≤ maxLen) : MsgR w m zV zV zV := by
  refine ⟨?_, ?_, ?_, hx⟩
  · rw [he]; exact sl_nil w
  · rw [hn]; exact sl_nil w
  · rw [ht]; exact sl_nil w
def lA : List UInt8 := [80, 50, 44, 55, 44, 51, 44, 51, 44, 107, 52, 44, 112, 50, 58, 97, 44, 99, 49, 44]
theorem says_A : SaysP mA lA := ⟨okA, putA⟩
theorem says_no03 (m : MsgD) : ¬ SaysP m l03 := fun h => no03 m h.says
theorem read_nC {w : World} {b1 b2 b3 b4 : Nat} {t1 t2 t3 t4 : TypeId} (h1 : w.heap[b1]? = some (.cells #[.int .i64 0, .int .i64 2, .string ⟨#[]⟩] t1 (0, 0))) (h2 : w.heap[b2]? = some (.cells #[.int .i64 5] t2 (0, 0)))
    (h3 : w.heap[b3]? = some (.cells #[.int .i64 2, .int .i64 4, .int .i64 0, .int .i64 0, .int .i64 0, .slice (some ⟨b2, 0, none⟩) 1 1] t3 (0, 0))) (h4 : w.heap[b4]? = some (.cells #[.int .i64 1, .int .i64 1, .slice (some ⟨b1, 0, none⟩) 1 1, .slice (some ⟨b3, 0, none⟩) 1 1] t4 (0, 0))) :
    EntriesR w nC (.slice (some ⟨b4, 0, none⟩) 1 1) := by
  have k1 : CompsR w [⟨0, 2, ba []⟩] (.slice (some ⟨b1, 0, none⟩) 1 1) := comps_lit (xs := [⟨0, 2, ba []⟩]) h1 (by simp [maxLen]) fun j hj => by
    match j, hj with
    | 0, _ => exact ⟨rfl, rfl, rfl, Nat.zero_le _⟩
    | n + 1, h => exact absurd h (by simp)
  have k2 : SlR 1 intR w [5] (.slice (some ⟨b2, 0, none⟩) 1 1) := sl_lit (xs := [(5 : Int)]) h2 (by simp [maxLen]) fun j hj => by
    match j, hj with
    | 0, _ => exact ⟨[.int .i64 5], rfl, rfl, fun i u hu => by
        match i, hu with
        | 0, hu => exact hu
        | n + 1, hu => cases hu⟩
    | n + 1, h => exact absurd h (by simp)
  have k3 : StepsR w sC (.slice (some ⟨b3, 0, none⟩) 1 1) := sl_lit (xs := sC) h3 (by simp [maxLen, sC]) fun j hj => by
    match j, hj with
    | 0, _ => exact ⟨stepCells ⟨2, 4, 0, 0, 0, [5]⟩ (.slice (some ⟨b2, 0, none⟩) 1 1), rfl, ⟨_, rfl, k2⟩, fun i u hu => by
        match i, hu with
        | 0, hu => exact hu
        | 1, hu => exact hu
        | 2, hu => exact hu
        | 3, hu => exact hu
        | 4, hu => exact hu
        | 5, hu => exact hu
        | n + 6, hu => cases hu⟩
    | n + 1, h => exact absurd h (by simp [sC])
  exact sl_lit (xs := nC) h4 (by simp [maxLen, nC]) fun j hj => by
    match j, hj with
    | 0, _ => exact ⟨entryCells ⟨1, 1, [⟨0, 2, ba []⟩], sC⟩ (.slice (some ⟨b1, 0, none⟩) 1 1) (.slice (some ⟨b3, 0, none⟩) 1 1), rfl, ⟨_, _, rfl, k1, k3⟩, fun i u hu => by
        match i, hu with
        | 0, hu => exact hu
        | 1, hu => exact hu
        | 2, hu => exact hu
        | 3, hu => exact hu
        | n + 4, hu => cases hu⟩
    | n + 1, h => exact absurd h (by simp [nC])
theorem five (w : World) (o0 o1 o2 o3 o4 : Obj) : (((((w.alloc o0).alloc o1).alloc o2).alloc o3).alloc o4).heap[w.heap.size + 1]? = some o1 ∧ (((((w.alloc o0).alloc o1).alloc o2).alloc o3).alloc o4).heap[w.heap.size + 1 + 1]? = some o2 ∧
    (((((w.alloc o0).alloc o1).alloc o2).alloc o3).alloc o4).heap[w.heap.size + 1 + 1 + 1]? = some o3 ∧ (((((w.alloc o0).alloc o1).alloc o2).alloc o3).alloc o4).heap[w.heap.size + 1 + 1 + 1 + 1]? = some o4 :=
  ⟨blk_alloc (blk_alloc (blk_alloc (new2 w o0 o1) _) _) _, blk_alloc (blk_alloc (by simpa using blk_new ((w.alloc o0).alloc o1) o2) _) _, blk_alloc (by simpa using blk_new (((w.alloc o0).alloc o1).alloc o2) o3) _, by simpa using blk_new ((((w.alloc o0).alloc o1).alloc o2).alloc o3) o4⟩
theorem step5 (w : World) (o0 o1 o2 o3 o4 : Obj) : Step No w (((((w.alloc o0).alloc o1).alloc o2).alloc o3).alloc o4) := (((((Step.refl No w).alloc _).alloc _).alloc _).alloc _).alloc _
theorem mayA : msgB mA = true := says_A.says.1
set_option maxHeartbeats 16000000 in
set_option maxRecDepth 100000 in
theorem awake_any (w : World) (hE : Env w) : Calls Tryz.prog 4 #[] w fun e w' => e = .returned (.bool true) ∧ Step No w w' := by
  have HE := Lib.hid hE
  clear hE
  go_enter Tryz.func4, Tryz.ntmps4
  go_wp2_with fail
  have HB1 := Lib.hid (blk_alloc (blk_new w (.cells #[.int .i64 0, .int .i64 4, .string ⟨#[]⟩, .int .i64 1, .int .i64 0, .string ⟨#[97, 44]⟩, .int .i64 2, .int .i64 1, .string ⟨#[]⟩] 29)) (.cells #[.int .i64 0, .int .i64 2, .int .i64 7, .int .i64 3, .int .i64 0, .int .i64 0, .bool false, .slice (some ⟨w.heap.size, 0, none⟩) 3 3, .slice none 0 0, .string ⟨#[]⟩, .int .i64 0, .int .i64 0, .slice none 0 0] 33))
  have HM1 := Lib.hid (new2 w (.cells #[.int .i64 0, .int .i64 4, .string ⟨#[]⟩, .int .i64 1, .int .i64 0, .string ⟨#[97, 44]⟩, .int .i64 2, .int .i64 1, .string ⟨#[]⟩] 29) (.cells #[.int .i64 0, .int .i64 2, .int .i64 7, .int .i64 3, .int .i64 0, .int .i64 0, .bool false, .slice (some ⟨w.heap.size, 0, none⟩) 3 3, .slice none 0 0, .string ⟨#[]⟩, .int .i64 0, .int .i64 0, .slice none 0 0] 33))
  have HS1 : Hid (Step No w _) := Lib.hid (((Step.refl No w).alloc (.cells #[.int .i64 0, .int .i64 4, .string ⟨#[]⟩, .int .i64 1, .int .i64 0, .string ⟨#[97, 44]⟩, .int .i64 2, .int .i64 1, .string ⟨#[]⟩] 29)).alloc (.cells #[.int .i64 0, .int .i64 2, .int .i64 7, .int .i64 3, .int .i64 0, .int .i64 0, .bool false, .slice (some ⟨w.heap.size, 0, none⟩) 3 3, .slice none 0 0, .string ⟨#[]⟩, .int .i64 0, .int .i64 0, .slice none 0 0] 33))
  generalize World.alloc (World.alloc w _) _ = w1 at *
  have HR1 := Lib.hid (mA_msg (read_eA HB1.out))
  refine (put_any mA _ zV zV _ HR1.out (fun x hx => by cases hx) (HE.out.step HS1.out)).mono ?_
  rintro e w2 ⟨hs2, hp⟩
  rcases hp with ⟨-, rfl⟩ | ⟨hp, -⟩
  · rw [putA]
    unfold ba
    have HS2 : Hid (Step No w w2) := Lib.hid (HS1.out.trans hs2 (fun _ f _ => f))
    have HM2 := Lib.hid (hs2.blk HM1.out (fun f => f))
    have HR2 := Lib.hid (HR1.out.to hs2)
    clear hs2 HM1 HR1 HB1 HS1
    go_wp2_with fail
    refine (get_any _ lA (by simp [lA]) (HE.out.step HS2.out)).mono ?_
    rintro e w3 ⟨hs3, hp⟩
    rcases hp with ⟨m, ev, env, nv, hm, rfl, hmw⟩ | ⟨hno, -⟩
    · obtain rfl := saysP_one hm says_A
      obtain ⟨⟨A1, n1, c1, rfl⟩, ⟨A2, n2, c2, rfl⟩, A3, n3, c3, rfl⟩ := hmw.slices
      have HS3 : Hid (Step No w w3) := Lib.hid (HS2.out.trans hs3 (fun _ f _ => f))
      have HM3 := Lib.hid (hs3.blk HM2.out (fun f => f))
      have HR3 := Lib.hid (HR2.out.to hs3)
      have HG3 := Lib.hid (msg_reads hmw)
      clear hs3 hm hmw HM2 HR2
      simp only [msgCells]
      go_wp2_with fail
      refine (put_any mS zV zV zV _ (empty_msg _ _ rfl rfl rfl (Nat.zero_le _)) (fun x hx => by cases hx) (HE.out.step (HS3.out.trans (by repeat' (first | exact Step.refl _ _ | with_reducible assumption | refine Step.drew ?_ | refine Step.drewN ?_ _ | refine Step.alloc ?_ _)) (fun _ f _ => f)))).mono ?_
      rintro e w4 ⟨hs4, hp⟩
      rcases hp with ⟨hp, -⟩ | ⟨-, rfl⟩
      · exact absurd (noS.symm.trans hp) (by decide)
      · have hs34 := Step.trans (F := No) (G := No) (Step.alloc (Step.refl _ w3) _) hs4 (fun _ f _ => f)
        have HS4 : Hid (Step No w w4) := Lib.hid (HS3.out.trans hs34 (fun _ f _ => f))
        have HM4 := Lib.hid (hs34.blk HM3.out (fun f => f))
        have HB4 := Lib.hid (hs4.blk (blk_new w3 _) (fun f => f))
        have HR4 := Lib.hid (HR3.out.to hs34)
        have HG4 := Lib.hid (HG3.out.to hs34)
        clear hs4 hs34 HG3 HM3 HR3
        go_wp2_with fail
        refine (get_any _ l03 (by simp [l03]) (HE.out.step (HS4.out.trans (by repeat' (first | exact Step.refl _ _ | with_reducible assumption | refine Step.drew ?_ | refine Step.drewN ?_ _ | refine Step.alloc ?_ _)) (fun _ f _ => f)))).mono ?_
        rintro e w5 ⟨hs5, hp⟩
        rcases hp with ⟨m, ev, env, nv, hm, rfl, hmw⟩ | ⟨-, rfl⟩
        · exact absurd hm (says_no03 m)
        · have HS5 : Hid (Step No w w5) := Lib.hid (HS4.out.trans hs5 (fun _ f _ => f))
          have HM5 := Lib.hid (hs5.blk HM4.out (fun f => f))
          have HB5 := Lib.hid (hs5.blk HB4.out (fun f => f))
          have HR5 := Lib.hid (HR4.out.to hs5)
          have HG5 := Lib.hid (HG4.out.to hs5)
          clear hs5 HG4 HM4 HR4 HB4
          simp only [msgCells, zM, zV, noTree, ba] at *
          go_wp2_with fail
          generalize hW : World.alloc (World.alloc (World.alloc (World.alloc (World.alloc w5 _) _) _) _) _ = w6 at *
          have hs6 : Step No w5 w6 := by rw [← hW]; exact step5 _ _ _ _ _ _
          have HN6 : Hid (EntriesR w6 nC (.slice (some ⟨w5.heap.size + 1 + 1 + 1 + 1, 0, none⟩) 1 1)) := Lib.hid (by
            rw [← hW]
            obtain ⟨f1, f2, f3, f4⟩ := five w5 _ _ _ _ _
            exact read_nC f1 f2 f3 f4)
          have HS6 : Hid (Step No w w6) := Lib.hid (HS5.out.trans hs6 (fun _ f _ => f))
          have HM6 := Lib.hid (hs6.blk HM5.out (fun f => f))
          have HB6 := Lib.hid (hs6.blk HB5.out (fun f => f))
          have HR6 := Lib.hid (HR5.out.to hs6)
          have HG6 := Lib.hid (HG5.out.to hs6)
          clear hW hs6 HM5 HB5 HR5 HG5 HS5 HS4 HS3 HS2
          refine (put_any mC zV _ zV w6 ⟨sl_nil _, HN6.out, sl_nil _, Nat.zero_le _⟩ (fun x hx => by cases hx) (HE.out.step HS6.out)).mono ?_
          rintro e w7 ⟨hs7, hp⟩
          rcases hp with ⟨-, rfl⟩ | ⟨hp, -⟩
          · rw [putC]
            have HS7 : Hid (Step No w w7) := Lib.hid (HS6.out.trans hs7 (fun _ f _ => f))
            have HM7 := Lib.hid (hs7.blk HM6.out (fun f => f))
            have HB7 := Lib.hid (hs7.blk HB6.out (fun f => f))
            have HR7 := Lib.hid (HR6.out.to hs7)
            have HG7 := Lib.hid (HG6.out.to hs7)
            clear hs7 HM6 HB6 HR6 HG6 HS6 HN6
            simp only [ba] at *
            obtain ⟨a0, a1, a2, a3, a4, a5, a6, a7, a8, a9, a10, a11, a12⟩ := cells13 HM7.out
            obtain ⟨b0, b1, b2, b3, b4, b5, b6, b7, b8, b9, b10, b11, b12⟩ := cells13 HB7.out
            go_wp2_with fail
            refine (num_any _ _).mono ?_
            rintro e w' ⟨rfl, rfl⟩
            go_wp2_with fail
            refine (SameMsg_any w7 mA mA _ _ _ _ _ _ HG7.out HR7.out).mono ?_
            rintro e w8 ⟨r, rfl, hr, hs8⟩
            obtain rfl : r = true := hr.2 rfl
            have HS8 : Hid (Step No w w8) := Lib.hid (HS7.out.trans hs8 (fun _ f _ => f))
            have HM8 := Lib.hid (hs8.blk HM7.out (fun f => f))
            have HR8 := Lib.hid (HR7.out.to hs8)
            clear a0 a1 a2 a3 a4 a5 a6 a7 a8 a9 a10 a11 a12 b0 b1 b2 b3 b4 b5 b6 b7 b8 b9 b10 b11 b12 hs8 hr HM7 HB7 HR7 HG7
            obtain ⟨a0, a1, a2, a3, a4, a5, a6, a7, a8, a9, a10, a11, a12⟩ := cells13 HM8.out
            go_wp2_with fail
            refine (num_any _ _).mono ?_
            rintro e w' ⟨rfl, rfl⟩
            go_wp2_with fail
            refine (num_any _ _).mono ?_
            rintro e w' ⟨rfl, rfl⟩
            go_wp2_with fail
            refine (num_any _ _).mono ?_
            rintro e w' ⟨rfl, rfl⟩
            go_wp2_with fail
            refine (num_any _ _).mono ?_
            rintro e w' ⟨rfl, rfl⟩
            go_wp2_with fail
            refine (MsgMay.may_any mA _ zV zV w8 HR8.out (fun x hx => by cases hx)).mono ?_
            rintro e w9 ⟨rfl, hs9⟩
            have HS9 : Hid (Step No w w9) := Lib.hid (HS8.out.trans hs9 (fun _ f _ => f))
            rw [mayA]
            go_wp2
            go_ret
            exact ⟨rfl, HS9.out⟩
          · exact absurd (okC.symm.trans hp) (by decide)
    · exact absurd says_A (hno mA)
  · exact absurd (okA.symm.trans hp) (by decide)
end Go.Proofs.YtkamhpbfebdhjaaGreatDoor.PkAwake
