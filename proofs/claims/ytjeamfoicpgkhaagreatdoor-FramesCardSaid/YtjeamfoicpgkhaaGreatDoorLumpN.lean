/- Several of my texts in one file: AddL2, RefAdd, RefAdd2, RefAdd3, RefNorm, RefNorm2. -/
import Derived.Test.YtjeamfoicpgkhaaGreatDoorAddL
import Derived.Test.YtjeamfoicpgkhaaGreatDoorRefMay1
import Derived.Deep.RegionHeld3
import Derived.Test.YtjeamfoicpgkhaaGreatDoorSameC
/- An edit may be where the reference's normal form of it is itself. Nothing of the program stands here. -/
namespace Go.Proofs.YtjeamfoicpgkhaaGreatDoor.AddL
open Go.RowKit Go.Lib Go.Proofs.YtjeamfoicpgkhaaGreatDoor.Data Go.Proofs.YtjeamfoicpgkhaaGreatDoor.Pk Go.Proofs.YtjeamfoicpgkhaaGreatDoor.May
set_option linter.unusedVariables false
set_option linter.unusedSimpArgs false
theorem merge_size {x c : CompD} {B D : Int} (hk : x.kind = c.kind) (hx : 0 < sizeR x ∧ sizeR x ≤ B) (hc : 0 ≤ sizeR c ∧ sizeR c ≤ D) (hb : B + D ≤ 4611686018427387904) : 0 < sizeR (mergeC x c) ∧ sizeR (mergeC x c) ≤ B + D := by
  have e : sizeR (mergeC x c) = sizeR x + sizeR c := by
    unfold sizeR mergeC at *
    simp only
    by_cases k1 : x.kind = 1
    · rw [if_pos k1, if_pos k1, if_pos (hk ▸ k1)]
      have := ByteArray.size_append (a := x.text) (b := c.text)
      omega
    · rw [if_neg k1] at hx
      rw [if_neg (hk ▸ k1)] at hc
      rw [if_neg k1, if_neg k1, if_neg (hk ▸ k1)]
      unfold wrap64
      omega
  rw [e]
  omega
theorem addL_size {B D : Int} {xs : List CompD} {c : CompD} (h : ∀ x ∈ xs, 0 < sizeR x ∧ sizeR x ≤ B) (hc : 0 ≤ sizeR c ∧ sizeR c ≤ D) (hB : 0 ≤ B) (hb : B + D ≤ 4611686018427387904) : ∀ x ∈ addL xs c, 0 < sizeR x ∧ sizeR x ≤ B + D := by
  have key : sizeR c ≠ 0 → ∀ r : List CompD, (∀ x ∈ r, 0 < sizeR x ∧ sizeR x ≤ B) → ∀ x ∈ addR r c, 0 < sizeR x ∧ sizeR x ≤ B + D := by
    intro hz r
    induction r with
    | nil =>
      intro _ x hx
      simp [addR] at hx
      subst hx
      omega
    | cons y r ih =>
      intro hr x hx
      have hy := hr y (by simp)
      have hr' : ∀ x ∈ r, 0 < sizeR x ∧ sizeR x ≤ B := fun x hx => hr x (by simp [hx])
      unfold addR at hx
      split at hx
      · rename_i hk
        rcases List.mem_cons.1 hx with rfl | hx
        · exact merge_size hk hy hc hb
        · have := hr' x hx; omega
      · split at hx
        · rcases List.mem_cons.1 hx with rfl | hx
          · omega
          · exact ih hr' x hx
        · rcases List.mem_cons.1 hx with rfl | hx
          · omega
          · rcases List.mem_cons.1 hx with rfl | hx
            · omega
            · have := hr' x hx; omega
  unfold addL
  split
  · intro x hx; have := h x hx; omega
  · rename_i hz
    intro x hx
    exact key hz xs.reverse (fun x hx => h x (by simpa using hx)) x (by simpa using hx)
theorem raw_size {c : CompD} (h : rawB c = true) : 0 ≤ sizeR c ∧ sizeR c ≤ 4096 ∧ c.text.size ≤ 4096 ∧ sizeR c = sizeC c := by
  unfold sizeR sizeC
  rcases of_decide_eq_true h with ⟨hk, h1, h2, h3⟩ | ⟨hk, h1, h2⟩
  · rw [if_neg (by omega)]
    omega
  · rw [if_pos hk]
    omega
theorem normL_at {cs : List CompD} (hr : ∀ c ∈ cs, rawB c = true) (hn : cs.length ≤ 4096) : ∀ k, k ≤ cs.length → (∀ x ∈ normL (cs.take k), 0 < sizeR x ∧ sizeR x ≤ 4096 * (k : Int)) ∧ ∀ x ∈ normL (cs.take k), x.text.size ≤ 4096 * k := by
  intro k
  induction k with
  | zero => intro _; exact ⟨fun x hx => by simp [normL] at hx, fun x hx => by simp [normL] at hx⟩
  | succ k ih =>
    intro hk
    obtain ⟨h1, h2⟩ := ih (by omega)
    obtain ⟨r1, r2, r3, r4⟩ := raw_size (hr cs[k] (List.getElem_mem (by omega)))
    rw [normL_next cs k (by omega)]
    refine ⟨fun x hx => ?_, fun x hx => ?_⟩
    · have := addL_size h1 ⟨r1, r2⟩ (by omega) (by omega) x hx
      omega
    · have := addL_text h2 r3 x hx
      omega
def fromR : List CompD → Int
  | [] => 0
  | c :: cs => (if c.kind = 1 then 0 else sizeR c) + fromR cs
def toR : List CompD → Int
  | [] => 0
  | c :: cs => (if c.kind = 2 then 0 else sizeR c) + toR cs
theorem spans_are : ∀ {cs : List CompD}, (∀ c ∈ cs, rawB c = true) → fromR cs = spanF cs ∧ toR cs = spanT cs
  | [], _ => ⟨rfl, rfl⟩
  | c :: cs, h => by
    obtain ⟨h1, h2⟩ := spans_are (cs := cs) (fun x hx => h x (by simp [hx]))
    obtain ⟨-, -, -, e⟩ := raw_size (h c (by simp))
    unfold fromR toR spanF spanT
    rw [h1, h2]
    refine ⟨?_, by rw [e]⟩
    by_cases k1 : c.kind = 1
    · rw [if_pos k1, if_pos k1]
    · rw [if_neg k1, if_neg k1]
      unfold sizeR
      rw [if_neg k1]
theorem nf_at : ∀ {r : List CompD}, nfR r → ∀ i x y, r[i]? = some x → r[i + 1]? = some y → x.kind ≠ y.kind ∧ ¬ (x.kind = 1 ∧ y.kind = 2)
  | [], _, i, x, y, hx, _ => by simp at hx
  | [a], _, i, x, y, _, hy => by simp at hy
  | a :: b :: r, h, 0, x, y, hx, hy => by
    simp at hx hy
    subst hx hy
    exact ⟨h.1, h.2.1⟩
  | a :: b :: r, h, i + 1, x, y, hx, hy => nf_at (r := b :: r) h.2.2 i x y (by simpa using hx) (by simpa using hy)
theorem nf_fwd {cs : List CompD} (h : nfR cs.reverse) (j : Nat) (x y : CompD) (hy : cs[j]? = some y) (hx : cs[j + 1]? = some x) : x.kind ≠ y.kind ∧ ¬ (x.kind = 1 ∧ y.kind = 2) := by
  have hj : j + 1 < cs.length := (List.getElem?_eq_some_iff.1 hx).1
  refine nf_at h (cs.length - 2 - j) x y ?_ ?_
  · rw [List.getElem?_reverse (by omega), show cs.length - 1 - (cs.length - 2 - j) = j + 1 by omega, hx]
  · rw [List.getElem?_reverse (by omega), show cs.length - 1 - (cs.length - 2 - j + 1) = j by omega, hy]
theorem ok_of : ∀ {cs : List CompD} {last : Int}, (∀ c, cs[0]? = some c → c.kind ≠ last ∧ ¬ (c.kind = 1 ∧ last = 2)) → (∀ j x y, cs[j]? = some y → cs[j + 1]? = some x → x.kind ≠ y.kind ∧ ¬ (x.kind = 1 ∧ y.kind = 2)) → (∀ c ∈ cs, rawB c = true) → (∀ c ∈ cs, sizeR c ≠ 0) → compsOk last cs = true
  | [], _, _, _, _, _ => rfl
  | c :: cs, last, h0, hc, hr, hs => by
    have r := hr c (by simp)
    have e := (raw_size r).2.2.2
    have z := hs c (by simp)
    have k := h0 c (by simp)
    simp only [compsOk, Bool.and_eq_true, decide_eq_true_eq]
    refine ⟨⟨r, by rw [← e]; exact z, k.1, k.2⟩, ok_of (fun d hd => hc 0 d c (by simp) (by simpa using hd)) (fun j x y hy hx => hc (j + 1) x y (by simpa using hy) (by simpa using hx)) (fun d hd => hr d (by simp [hd])) (fun d hd => hs d (by simp [hd]))⟩
theorem norm_same : ∀ {cs ys : List CompD} {last : Int}, compsOk last cs = true → (∀ x zs, ys = zs ++ [x] → x.kind = last) → cs.foldl addL ys = ys ++ cs
  | [], ys, _, _, _ => by simp
  | c :: cs, ys, last, h, hl => by
    simp only [compsOk, Bool.and_eq_true, decide_eq_true_eq] at h
    obtain ⟨⟨r, z, k1, k2⟩, h⟩ := h
    rw [← (raw_size r).2.2.2] at z
    have e : addL ys c = ys ++ [c] := by
      rcases List.eq_nil_or_concat ys with rfl | ⟨zs, x, rfl⟩
      · exact addL_nil z
      · rw [List.concat_eq_append] at *
        have hx := hl x zs rfl
        exact addL_more z (by rw [hx]; exact fun e => k1 e.symm) (by rw [hx]; exact k2)
    rw [List.foldl_cons, e, norm_same h (fun x zs hxz => by have := List.append_inj_right' hxz rfl; injection this with this; rw [this])]
    simp
theorem edit_norm (cs : List CompD) : editB cs = true ↔ (cs.length ≤ 4096 ∧ (∀ c ∈ cs, rawB c = true) ∧ fromR (normL cs) ≤ 4096 ∧ toR (normL cs) ≤ 4096 ∧ normL cs = cs) := by
  constructor
  · intro h
    simp only [editB, Bool.and_eq_true, decide_eq_true_eq] at h
    obtain ⟨⟨h1, h2⟩, h3, h4⟩ := h
    have hr : ∀ c ∈ cs, rawB c = true := by
      have : ∀ {last : Int} {cs : List CompD}, compsOk last cs = true → ∀ c ∈ cs, rawB c = true := by
        intro last cs
        induction cs generalizing last with
        | nil => intro _ c hc; simp at hc
        | cons d cs ih =>
          intro h c hc
          simp only [compsOk, Bool.and_eq_true] at h
          rcases List.mem_cons.1 hc with rfl | hc
          · exact h.1.1
          · exact ih h.2 c hc
      exact this h2
    have hn : normL cs = cs := by
      have := norm_same (ys := []) h2 (fun x zs hxz => by simp at hxz)
      simpa [normL] using this
    obtain ⟨s1, s2⟩ := spans_are hr
    rw [hn, s1, s2]
    exact ⟨h1, hr, h3, h4, rfl⟩
  · rintro ⟨h1, hr, h3, h4, hn⟩
    obtain ⟨s1, s2⟩ := spans_are hr
    have hsz : ∀ c ∈ cs, sizeR c ≠ 0 := by
      intro c hc
      have := (normL_at hr h1 cs.length (Nat.le_refl _)).1 c (by rw [List.take_length, hn]; exact hc)
      omega
    have hnf := normL_nf cs
    rw [hn] at hnf h3 h4
    simp only [editB, Bool.and_eq_true, decide_eq_true_eq]
    refine ⟨⟨h1, ok_of (fun c hc => ?_) (nf_fwd hnf) hr hsz⟩, by rw [← s1]; exact h3, by rw [← s2]; exact h4⟩
    have hcm := List.mem_of_getElem? hc
    rcases of_decide_eq_true (hr c hcm) with ⟨hk, -⟩ | ⟨hk, -⟩
    · exact ⟨by omega, by omega⟩
    · exact ⟨by omega, by omega⟩
end Go.Proofs.YtjeamfoicpgkhaaGreatDoor.AddL

/- A piece is added to an edit: the reference's way. -/
namespace Go.Proofs.YtjeamfoicpgkhaaGreatDoor.RefAdd
open Go.RowKit Go.Lib Go.Proofs.YtjeamfoicpgkhaaGreatDoor.Mem Go.Proofs.YtjeamfoicpgkhaaGreatDoor.Read Go.Proofs.YtjeamfoicpgkhaaGreatDoor.Tree Go.Proofs.YtjeamfoicpgkhaaGreatDoor.Data Go.Proofs.YtjeamfoicpgkhaaGreatDoor.CompR Go.Proofs.YtjeamfoicpgkhaaGreatDoor.MsgR Go.Proofs.YtjeamfoicpgkhaaGreatDoor.May Go.Proofs.YtjeamfoicpgkhaaGreatDoor.AddL Go.Proofs.YtjeamfoicpgkhaaGreatDoor.RefMay1
open Go.Proofs.YtjeamfoicpgkhaaGreatDoor.CompMay (aggC)
set_option linter.unusedVariables false
set_option linter.unusedSimpArgs false
def Ok (v : Value) (k : Nat) : Prop := v.ownBlock = some k
def AddPost (base : Nat) (w : World) (v : Value) (xs : List CompD) (e : Ending) (w' : World) : Prop := ∃ v', e = .returned v' ∧ CompsO base w' xs v' ∧ Step (Ok v) w w'
theorem own_step {F : Nat → Prop} {base : Nat} {w w' : World} {xs : List CompD} {v : Value} (h : CompsO base w xs v) (hs : Step F w w') (hF : ∀ k, v.ownBlock = some k → ¬ F k) : CompsO base w' xs v := ⟨row_step h.1 hs hF, h.2⟩
theorem own_no {base : Nat} {w w' : World} {xs : List CompD} {v : Value} (h : CompsO base w xs v) (hs : Step No w w') : CompsO base w' xs v := own_step h hs (fun _ _ f => f)
/-- One more behind a row of one's own. -/
theorem own_more {base : Nat} {w0 w1 w2 : World} {xs : List CompD} {v v1 : Value} {c : CompD} {n : Nat} (hn : xs.length = n) (h0 : CompsO base w0 xs v) (hb : base ≤ w0.heap.size) (hs : Step (Ok v) w0 w1)
    (ho : w2.ownsRow 0 TC 3 v1 (n + 1) (xs.flatMap compCells ++ compCells c)) (hg : w1.grownBy w2 v.ownBlock) (hat : v1.ownBlock = v.ownBlock ∨ v1.ownBlock = some w1.heap.size) : CompsO base w2 (xs ++ [c]) v1 ∧ Step (Ok v) w0 w2 := by
  refine ⟨⟨?_, fun k hk => ?_⟩, hs.grown hg (fun k hk _ => hk)⟩
  · rw [List.length_append, List.length_singleton, List.flatMap_append, hn]
    simpa using ho
  · rcases hat with hat | hat
    · exact h0.2 k (by rw [← hat]; exact hk)
    · rw [hk] at hat
      injection hat with hat
      have := hs.size
      omega
set_option maxHeartbeats 4000000 in
set_option maxRecDepth 100000 in
theorem Add_zero (base : Nat) (v : Value) (xs : List CompD) (c : CompD) (w : World) (ho : CompsO base w xs v) (hz : sizeR c = 0) : Calls Tryz.prog 138 #[v, aggC c] w (AddPost base w v (addL xs c)) := by
  obtain ⟨A, cc, rfl, hc1, hc2⟩ := row_slice ho.1
  have HO := Lib.hid ho
  have HZ := Lib.hid hz
  have HEq := Lib.hid (addL_zero (xs := xs) hz)
  clear ho hz
  obtain ⟨ck, cn, ct⟩ := c
  unfold aggC
  simp only
  go_enter Tryz.func138, Tryz.ntmps138
  go_wp2_with fail
  refine (size_ref ⟨ck, cn, ct⟩ _).mono ?_
  rintro e w1 ⟨rfl, hs1⟩
  have HS1 : Hid (Step No w w1) := Lib.hid (((Step.refl No w).alloc _).trans hs1 (fun _ f _ => f))
  have HBk := Lib.hid (hs1.blk (blk_new w _) (fun f => f))
  clear hs1
  have a0 := blk_cell HBk.out 0
  have a1 := blk_cell HBk.out 1
  have a2 := blk_cell HBk.out 2
  simp at a0 a1 a2
  rw [HZ.out]
  go_wp2
  go_ret
  exact ⟨_, rfl, by rw [HEq.out]; exact own_no HO.out HS1.out, HS1.out.none⟩
set_option maxHeartbeats 4000000 in
set_option maxRecDepth 100000 in
theorem Add_nil (base : Nat) (v : Value) (c : CompD) (w : World) (hb : base ≤ w.heap.size) (ho : CompsO base w [] v) (hz : sizeR c ≠ 0) : Calls Tryz.prog 138 #[v, aggC c] w (AddPost base w v (addL [] c)) := by
  obtain ⟨A, cc, rfl, hc1, hc2⟩ := row_slice ho.1
  simp only [List.length_nil] at *
  have HO := Lib.hid ho
  have HB := Lib.hid hb
  have HEq := Lib.hid (addL_nil hz)
  have HZ := Lib.hid hz
  clear ho hb hz
  obtain ⟨ck, cn, ct⟩ := c
  unfold aggC
  simp only
  go_enter Tryz.func138, Tryz.ntmps138
  go_wp2_with fail
  refine (size_ref ⟨ck, cn, ct⟩ _).mono ?_
  rintro e w1 ⟨rfl, hs1⟩
  have HS1 : Hid (Step No w w1) := Lib.hid (((Step.refl No w).alloc _).trans hs1 (fun _ f _ => f))
  have HBk := Lib.hid (hs1.blk (blk_new w _) (fun f => f))
  clear hs1
  have a0 := blk_cell HBk.out 0
  have a1 := blk_cell HBk.out 1
  have a2 := blk_cell HBk.out 2
  simp at a0 a1 a2
  have hz := HZ.out
  generalize sizeR ⟨ck, cn, ct⟩ = z at *
  have hz0 : (z == 0) = false := beq_eq_false_iff_ne.2 hz
  clear hz HZ
  go_wp2_with fail
  go_quiet (fail)
  go_upto_region 16 with (fail)
  generalize hW : World.drewN w1 _ = wq at *
  have HSq : Hid (Step No w wq) := Lib.hid (by rw [← hW]; exact HS1.out.drewN _)
  have b0 : wq.cell? ⟨w.heap.size, 0, none⟩ = some (.int .i64 ck) := by rw [← hW]; exact a0
  have b1 : wq.cell? ⟨w.heap.size, 1, none⟩ = some (.int .i64 cn) := by rw [← hW]; exact a1
  have b2 : wq.cell? ⟨w.heap.size, 2, none⟩ = some (.string ct) := by rw [← hW]; exact a2
  clear hW a0 a1 a2
  have HOw := Lib.hid (own_no HO.out HSq.out)
  go_wp2_with (at_builtin; refine list_append_own _ rfl (.tmp 83) (.tmp 85) 22 48 _ 3 32 rfl Tryz.underlying22 infoC rfl (by decide) (.slice A 0 cc) (0) ([]) rfl (by exact HOw.out.1.alloc _) ⟨wq.heap.size, 0, none⟩ 1 1 (compCells ⟨ck, cn, ct⟩) rfl rfl (by exact cells_new wq #[.int .i64 ck, .int .i64 cn, .string ct] TC) (by simp [compCells, Value.oneCell']) (by unfold maxLen; omega) (by omega) ?_; intro v1 w2 hown hg hat; have HM := Lib.hid (own_more (c := ⟨ck, cn, ct⟩) (xs := []) rfl HO.out HB.out ((HSq.out.alloc (.cells #[.int .i64 ck, .int .i64 cn, .string ct] TC)).none) hown hg hat); clear hown hg hat)
  go_ret
  exact ⟨_, rfl, by rw [HEq.out]; exact HM.out.1, HM.out.2⟩
theorem flat_len3 : ∀ ys : List CompD, (ys.flatMap compCells).length = ys.length * 3
  | [] => rfl
  | y :: ys => by
    rw [List.flatMap_cons, List.length_append, flat_len3 ys, List.length_cons]
    show 3 + ys.length * 3 = _
    omega
/-- The last piece of a row. -/
theorem last_cells {base : Nat} {w : World} {ys : List CompD} {x : CompD} {A : Option Addr} {c : Nat} (h : CompsO base w (ys ++ [x]) (.slice A (ys ++ [x]).length c)) : ∃ g, A = some ⟨g, 0, none⟩ ∧ w.cell? ⟨g, ys.length * 3, none⟩ = some (.int .i64 x.kind) ∧ w.cell? ⟨g, ys.length * 3 + 1, none⟩ = some (.int .i64 x.n) ∧ w.cell? ⟨g, ys.length * 3 + 2, none⟩ = some (.string x.text) ∧
    w.frozen? ⟨g, ys.length * 3, none⟩ = false ∧ w.frozen? ⟨g, ys.length * 3 + 1, none⟩ = false ∧ w.frozen? ⟨g, ys.length * 3 + 2, none⟩ = false := by
  have hn : 0 < (ys ++ [x]).length := by simp
  obtain ⟨g, c', he, -, -⟩ := row_form h.1 hn
  injection he with he1 he2 he3
  subst he1 he3
  have hl := flat_len3 ys
  have hf : (ys ++ [x]).flatMap compCells = ys.flatMap compCells ++ compCells x := by simp
  have hlen : (ys ++ [x]).length * 3 = ys.length * 3 + 3 := by simp; omega
  have key : ∀ i, i < 3 → w.cell? ⟨g, ys.length * 3 + i, none⟩ = (compCells x)[i]? := fun i hi => by
    rw [h.1.cellAt _ (by omega), hf, List.getElem?_append_right (by omega), hl]
    congr 1
    omega
  exact ⟨g, rfl, key 0 (by decide), key 1 (by decide), key 2 (by decide), h.1.frozenAt _, h.1.frozenAt _, h.1.frozenAt _⟩
theorem set3 {base : Nat} {w : World} {ys : List CompD} {x x' : CompD} {g c : Nat} (h : CompsO base w (ys ++ [x]) (.slice (some ⟨g, 0, none⟩) (ys.length + 1) c)) :
    CompsO base (((w.setCell ⟨g, ys.length * 3, none⟩ (.int .i64 x'.kind)).setCell ⟨g, ys.length * 3 + 1, none⟩ (.int .i64 x'.n)).setCell ⟨g, ys.length * 3 + 2, none⟩ (.string x'.text)) (ys ++ [x']) (.slice (some ⟨g, 0, none⟩) (ys.length + 1) c) := by
  refine ⟨?_, h.2⟩
  have h1 := h.1
  rw [show (ys ++ [x]).length = ys.length + 1 by simp] at h1
  rw [show (ys ++ [x']).length = ys.length + 1 by simp]
  have h2 := (((h1.stored (ys.length * 3) (.int .i64 x'.kind)).1.stored (ys.length * 3 + 1) (.int .i64 x'.n)).1.stored (ys.length * 3 + 2) (.string x'.text)).1
  have e : (((((ys ++ [x]).flatMap compCells).set (ys.length * 3) (Value.int .i64 x'.kind)).set (ys.length * 3 + 1) (.int .i64 x'.n)).set (ys.length * 3 + 2) (.string x'.text)) = (ys ++ [x']).flatMap compCells := by
    have hl := flat_len3 ys
    rw [List.flatMap_append, List.flatMap_append]
    generalize ys.flatMap compCells = F at *
    rw [← hl]
    simp [List.set_append, compCells]
  rw [e] at h2
  exact h2
set_option maxHeartbeats 8000000 in
set_option maxRecDepth 100000 in
theorem Add_same (base : Nat) (v : Value) (ys : List CompD) (x c : CompD) (w : World) (hb : base ≤ w.heap.size) (ho : CompsO base w (ys ++ [x]) v) (hn : ys.length ≤ 10000) (hx : x.text.size ≤ 100000000) (hc : c.text.size ≤ 100000000) (hz : sizeR c ≠ 0) (hk : x.kind = c.kind) : Calls Tryz.prog 138 #[v, aggC c] w (AddPost base w v (addL (ys ++ [x]) c)) := by
  obtain ⟨A, cc, rfl, hc1, hc2⟩ := row_slice ho.1
  obtain ⟨g, rfl, x0, x1, x2, f0, f1, f2⟩ := last_cells ho
  have hgl := (ho.1.lt g rfl).2
  rw [show (ys ++ [x]).length = ys.length + 1 by simp] at *
  have HO := Lib.hid ho
  have HB := Lib.hid hb
  have HEq := Lib.hid (addL_same (ys := ys) hz hk)
  have HZ := Lib.hid hz
  obtain ⟨xk, xn, xt⟩ := x
  simp only at hk hx x0 x1 x2
  subst hk
  have q1 : ¬ 9223372036854775807 < xt.size + c.text.size := by omega
  clear ho hb hz
  obtain ⟨ck, cn, ct⟩ := c
  simp only at *
  unfold aggC
  simp only
  go_enter Tryz.func138, Tryz.ntmps138
  go_wp2_with fail
  refine (size_ref ⟨ck, cn, ct⟩ _).mono ?_
  rintro e w1 ⟨rfl, hs1⟩
  have HS1 : Hid (Step No w w1) := Lib.hid (((Step.refl No w).alloc _).trans hs1 (fun _ f _ => f))
  have HBk := Lib.hid (hs1.blk (blk_new w _) (fun f => f))
  have a0 := blk_cell HBk.out 0
  have a1 := blk_cell HBk.out 1
  have a2 := blk_cell HBk.out 2
  simp at a0 a1 a2
  have y0 := HS1.out.cell x0 (fun f => f)
  have y1 := HS1.out.cell x1 (fun f => f)
  have y2 := HS1.out.cell x2 (fun f => f)
  clear hs1 x0 x1 x2 f0 f1 f2
  have hz := HZ.out
  generalize sizeR ⟨ck, cn, ct⟩ = z at *
  have hz0 : (z == 0) = false := beq_eq_false_iff_ne.2 hz
  clear hz HZ
  have hk0 : (0 : Int) ≤ ys.length := by omega
  have hk1 : (ys.length : Int) < ys.length + 1 := by omega
  go_wp2_with fail
  go_quiet (fail)
  go_upto_region 5 with (fail)
  generalize hW : World.drewN w1 _ = wq at *
  have HSq : Hid (Step No w wq) := Lib.hid (by rw [← hW]; exact HS1.out.drewN _)
  have HBq : Hid (wq.heap[w.heap.size]? = some (.cells #[.int .i64 ck, .int .i64 cn, .string ct] TC (0, 0))) := Lib.hid (by rw [← hW]; exact HBk.out)
  have b0 : wq.cell? ⟨w.heap.size, 0, none⟩ = some (.int .i64 ck) := by rw [← hW]; exact a0
  have b1 : wq.cell? ⟨w.heap.size, 1, none⟩ = some (.int .i64 cn) := by rw [← hW]; exact a1
  have b2 : wq.cell? ⟨w.heap.size, 2, none⟩ = some (.string ct) := by rw [← hW]; exact a2
  have z0 : wq.cell? ⟨g, ys.length * 3, none⟩ = some (.int .i64 ck) := by rw [← hW]; exact y0
  have z1 : wq.cell? ⟨g, ys.length * 3 + 1, none⟩ = some (.int .i64 xn) := by rw [← hW]; exact y1
  have z2 : wq.cell? ⟨g, ys.length * 3 + 2, none⟩ = some (.string xt) := by rw [← hW]; exact y2
  clear hW a0 a1 a2 y0 y1 y2
  go_upto_region 6 with (fail)
  generalize hW : World.alloc wq _ = wx at *
  have HSx : Hid (Step No w wx) := Lib.hid (by rw [← hW]; exact HSq.out.alloc _)
  have HCx : Hid (wx.heap[w.heap.size]? = some (.cells #[.int .i64 ck, .int .i64 cn, .string ct] TC (0, 0))) := Lib.hid (by rw [← hW]; exact blk_alloc HBq.out _)
  have H6x : Hid (wx.heap[wq.heap.size]? = some (.cells #[.int .i64 ck, .int .i64 xn, .string xt] TC (0, 0))) := Lib.hid (by rw [← hW]; exact blk_new wq _)
  have hlt := blk_lt HBq.out
  clear hW b0 b1 b2 z0 z1 z2
  generalize wq.heap.size = b6 at *
  have n1 : w.heap.size ≠ b6 := by omega
  have n2 : g ≠ b6 := by omega
  have n3 : w.heap.size ≤ b6 := by omega
  have c1 : wx.cell? ⟨w.heap.size, 1, none⟩ = some (.int .i64 cn) := by rw [blk_cell HCx.out]; rfl
  have s1 : wx.cell? ⟨b6, 1, none⟩ = some (.int .i64 xn) := by rw [blk_cell H6x.out]; rfl
  have t1 := blk_free H6x.out 1
  go_upto_region 7 with (fail)
  generalize hW : World.setCell wx _ _ = wy at *
  have HSy : Hid (Step No w wy) := Lib.hid (by rw [← hW]; exact HSx.out.setCell (fun h => absurd (show b6 < w.heap.size from h) (by omega)) _)
  have HCy : Hid (wy.heap[w.heap.size]? = some (.cells #[.int .i64 ck, .int .i64 cn, .string ct] TC (0, 0))) := Lib.hid (by rw [← hW]; exact blk_set_other HCx.out n1.symm _)
  have H6y : Hid (wy.heap[b6]? = some (.cells #[.int .i64 ck, .int .i64 (wrap64 (xn + cn)), .string xt] TC (0, 0))) := Lib.hid (by rw [← hW]; have := blk_set H6x.out 1 (.int .i64 (wrap64 (xn + cn))); simpa using this)
  clear hW c1 s1 t1 HCx H6x
  have c2 : wy.cell? ⟨w.heap.size, 2, none⟩ = some (.string ct) := by rw [blk_cell HCy.out]; rfl
  have s2 : wy.cell? ⟨b6, 2, none⟩ = some (.string xt) := by rw [blk_cell H6y.out]; rfl
  have t2 := blk_free H6y.out 2
  go_upto_region 8 with (fail)
  generalize hW : World.setCell wy _ _ = wz at *
  have HSz : Hid (Step No w wz) := Lib.hid (by rw [← hW]; exact HSy.out.setCell (fun h => absurd (show b6 < w.heap.size from h) (by omega)) _)
  have H6z : Hid (wz.heap[b6]? = some (.cells #[.int .i64 ck, .int .i64 (wrap64 (xn + cn)), .string (xt ++ ct)] TC (0, 0))) := Lib.hid (by rw [← hW]; have := blk_set H6y.out 2 (.string (xt ++ ct)); simpa using this)
  clear hW c2 s2 t2 HCy H6y
  have s0 : wz.cell? ⟨b6, 0, none⟩ = some (.int .i64 ck) := by rw [blk_cell H6z.out]; rfl
  have s1 : wz.cell? ⟨b6, 1, none⟩ = some (.int .i64 (wrap64 (xn + cn))) := by rw [blk_cell H6z.out]; rfl
  have s2 : wz.cell? ⟨b6, 2, none⟩ = some (.string (xt ++ ct)) := by rw [blk_cell H6z.out]; rfl
  obtain ⟨g', hg', z0, z1, z2, f0, f1, f2⟩ := last_cells (show CompsO base wz (ys ++ [⟨ck, xn, xt⟩]) (.slice (some ⟨g, 0, none⟩) (ys ++ [(⟨ck, xn, xt⟩ : CompD)]).length cc) by rw [show (ys ++ [(⟨ck, xn, xt⟩ : CompD)]).length = ys.length + 1 by simp]; exact own_no HO.out HSz.out)
  injection hg' with hg'
  injection hg' with hg' _
  subst hg'
  go_upto_region 9 with (fail)
  have HWo := Lib.hid (set3 (x' := ⟨ck, wrap64 (xn + cn), xt ++ ct⟩) (own_no HO.out HSz.out))
  have hok : Ok (.slice (some ⟨g, 0, none⟩) (ys.length + 1) cc) g := rfl
  have k0 : Step (Ok (.slice (some ⟨g, 0, none⟩) (ys.length + 1) cc)) w wz := HSz.out.none
  have k1 := k0.setCell (p := ⟨g, ys.length * 3, none⟩) (fun _ => hok) (.int .i64 ck)
  have k2 := k1.setCell (p := ⟨g, ys.length * 3 + 1, none⟩) (fun _ => hok) (.int .i64 (wrap64 (xn + cn)))
  have HWs := Lib.hid (k2.setCell (p := ⟨g, ys.length * 3 + 2, none⟩) (fun _ => hok) (.string (xt ++ ct)))
  clear k0 k1 k2 hok
  simp only at HWo
  generalize World.setCell (World.setCell (World.setCell wz _ _) _ _) _ _ = W at *
  clear z0 z1 z2 f0 f1 f2 s0 s1 s2
  go_wp2
  go_ret
  exact ⟨_, rfl, by rw [HEq.out]; exact HWo.out, HWs.out⟩
end Go.Proofs.YtjeamfoicpgkhaaGreatDoor.RefAdd

/- A piece is added to an edit: the reference's way; the other cases, and all. -/
namespace Go.Proofs.YtjeamfoicpgkhaaGreatDoor.RefAdd
open Go.RowKit Go.Lib Go.Proofs.YtjeamfoicpgkhaaGreatDoor.Mem Go.Proofs.YtjeamfoicpgkhaaGreatDoor.Read Go.Proofs.YtjeamfoicpgkhaaGreatDoor.AppSl Go.Proofs.YtjeamfoicpgkhaaGreatDoor.Tree Go.Proofs.YtjeamfoicpgkhaaGreatDoor.Data Go.Proofs.YtjeamfoicpgkhaaGreatDoor.CompR Go.Proofs.YtjeamfoicpgkhaaGreatDoor.MsgR Go.Proofs.YtjeamfoicpgkhaaGreatDoor.May Go.Proofs.YtjeamfoicpgkhaaGreatDoor.AddL Go.Proofs.YtjeamfoicpgkhaaGreatDoor.RefMay1
open Go.Proofs.YtjeamfoicpgkhaaGreatDoor.CompMay (aggC)
set_option linter.unusedVariables false
set_option linter.unusedSimpArgs false
theorem row_new {w w2 : World} {xs : List CompD} {v1 : Value} (ho : w2.ownsRow 0 TC 3 v1 xs.length (xs.flatMap compCells)) (hg : (w.alloc (.cells #[] TC)).grownBy w2 (Value.slice (some ⟨w.heap.size, 0, none⟩) 0 0).ownBlock) (hat : v1.ownBlock = (Value.slice (some ⟨w.heap.size, 0, none⟩) 0 0).ownBlock ∨ v1.ownBlock = some (w.alloc (.cells #[] TC)).heap.size) :
    CompsO w.heap.size w2 xs v1 ∧ Step No w w2 := by
  refine ⟨⟨ho, fun k hk => ?_⟩, (Step.alloc (Step.refl No w) _).grown hg (fun k hk hlt => by simp [Value.ownBlock] at hk; omega)⟩
  rcases hat with hat | hat
  · rw [hk] at hat; simp [Value.ownBlock] at hat; omega
  · rw [hk] at hat
    injection hat with hat
    have e : (w.alloc (.cells #[] TC)).heap.size = w.heap.size + 1 := by simp
    omega
theorem sl_front {w : World} {ys : List CompD} {x : CompD} {A : Option Addr} {c : Nat} (h : CompsR w (ys ++ [x]) (.slice A (ys.length + 1) c)) : CompsR w ys (.slice A ys.length c) := by
  obtain ⟨A', c', he, h1, h2, h3⟩ := h
  injection he with he1 he2 he3
  subst he1 he3
  have hl : (ys ++ [x]).length = ys.length + 1 := by simp
  refine ⟨A, c, rfl, by omega, h2, fun j hj => ?_⟩
  obtain ⟨ad, cs, e, k1, k2, k3⟩ := h3 j (by omega)
  rw [List.getElem_append_left hj] at k2
  exact ⟨ad, cs, e, k1, k2, k3⟩

set_option maxHeartbeats 8000000 in
set_option maxRecDepth 100000 in
theorem Add_more (base : Nat) (v : Value) (ys : List CompD) (x c : CompD) (w : World) (hb : base ≤ w.heap.size) (ho : CompsO base w (ys ++ [x]) v) (hn : ys.length ≤ 10000) (hz : sizeR c ≠ 0) (hk : x.kind ≠ c.kind) (h12 : ¬ (c.kind = 1 ∧ x.kind = 2)) : Calls Tryz.prog 138 #[v, aggC c] w (AddPost base w v (addL (ys ++ [x]) c)) := by
  obtain ⟨A, cc, rfl, hc1, hc2⟩ := row_slice ho.1
  obtain ⟨g, rfl, x0, x1, x2, f0, f1, f2⟩ := last_cells ho
  have hgl := (ho.1.lt g rfl).2
  rw [show (ys ++ [x]).length = ys.length + 1 by simp] at *
  have HO := Lib.hid ho
  have HB := Lib.hid hb
  have HEq := Lib.hid (addL_more (ys := ys) hz hk h12)
  have HZ := Lib.hid hz
  obtain ⟨xk, xn, xt⟩ := x
  obtain ⟨ck, cn, ct⟩ := c
  simp only at *
  have hkf : (xk == ck) = false := beq_eq_false_iff_ne.2 hk
  clear ho hb hz
  unfold aggC
  simp only
  go_enter Tryz.func138, Tryz.ntmps138
  go_wp2_with fail
  refine (size_ref ⟨ck, cn, ct⟩ _).mono ?_
  rintro e w1 ⟨rfl, hs1⟩
  have HS1 : Hid (Step No w w1) := Lib.hid (((Step.refl No w).alloc _).trans hs1 (fun _ f _ => f))
  have HBk := Lib.hid (hs1.blk (blk_new w _) (fun f => f))
  have a0 := blk_cell HBk.out 0
  have a1 := blk_cell HBk.out 1
  have a2 := blk_cell HBk.out 2
  simp at a0 a1 a2
  have y0 := HS1.out.cell x0 (fun f => f)
  have y1 := HS1.out.cell x1 (fun f => f)
  have y2 := HS1.out.cell x2 (fun f => f)
  clear hs1 x0 x1 x2 f0 f1 f2
  have hz := HZ.out
  generalize sizeR ⟨ck, cn, ct⟩ = z at *
  have hz0 : (z == 0) = false := beq_eq_false_iff_ne.2 hz
  clear hz HZ
  have hk0 : (0 : Int) ≤ ys.length := by omega
  have hk1 : (ys.length : Int) < ys.length + 1 := by omega
  go_wp2_with fail
  go_quiet (fail)
  go_upto_region 10 with (fail)
  generalize hW : World.drewN w1 _ = wq at *
  have HSq : Hid (Step No w wq) := Lib.hid (by rw [← hW]; exact HS1.out.drewN _)
  have HBq : Hid (wq.heap[w.heap.size]? = some (.cells #[.int .i64 ck, .int .i64 cn, .string ct] TC (0, 0))) := Lib.hid (by rw [← hW]; exact HBk.out)
  have b0 : wq.cell? ⟨w.heap.size, 0, none⟩ = some (.int .i64 ck) := by rw [← hW]; exact a0
  have b1 : wq.cell? ⟨w.heap.size, 1, none⟩ = some (.int .i64 cn) := by rw [← hW]; exact a1
  have b2 : wq.cell? ⟨w.heap.size, 2, none⟩ = some (.string ct) := by rw [← hW]; exact a2
  have z0 : wq.cell? ⟨g, ys.length * 3, none⟩ = some (.int .i64 xk) := by rw [← hW]; exact y0
  have z1 : wq.cell? ⟨g, ys.length * 3 + 1, none⟩ = some (.int .i64 xn) := by rw [← hW]; exact y1
  have z2 : wq.cell? ⟨g, ys.length * 3 + 2, none⟩ = some (.string xt) := by rw [← hW]; exact y2
  clear hW a0 a1 a2 y0 y1 y2
  have HLen : Hid ((ys ++ [(⟨xk, xn, xt⟩ : CompD)]).length = ys.length + 1) := Lib.hid (by simp)
  by_cases hck : ck = 1
  · have hc1' : (ck == 1) = true := by rw [hck]; rfl
    have hx2 : (xk == 2) = false := beq_eq_false_iff_ne.2 fun e => h12 ⟨hck, e⟩
    clear hck h12 hk
    go_upto_region 16 with (fail)
    clear z0 z1 z2
    have hOw := (own_no HO.out HSq.out).1
    rw [HLen.out] at hOw
    have HOw := Lib.hid hOw
    clear hOw
    go_wp2_with (at_builtin; refine list_append_own _ rfl (.tmp 83) (.tmp 85) 22 48 _ 3 32 rfl Tryz.underlying22 infoC rfl (by decide) (.slice (some ⟨g, 0, none⟩) (ys.length + 1) cc) (ys.length + 1) ((ys ++ [(⟨xk, xn, xt⟩ : CompD)]).flatMap compCells) rfl (by exact HOw.out.alloc _) ⟨wq.heap.size, 0, none⟩ 1 1 (compCells ⟨ck, cn, ct⟩) rfl rfl (by exact cells_new wq #[.int .i64 ck, .int .i64 cn, .string ct] TC) (by simp [compCells, Value.oneCell']) (by unfold maxLen; omega) (by omega) ?_; intro v1 w2 hown hg hat; have HM := Lib.hid (own_more (c := ⟨ck, cn, ct⟩) HLen.out HO.out HB.out ((HSq.out.alloc (.cells #[.int .i64 ck, .int .i64 cn, .string ct] TC)).none) hown hg hat); clear hown hg hat)
    go_ret
    exact ⟨_, rfl, by rw [HEq.out]; exact HM.out.1, HM.out.2⟩
  · have hc1' : (ck == 1) = false := beq_eq_false_iff_ne.2 hck
    clear hck h12 hk
    go_upto_region 16 with (fail)
    clear z0 z1 z2
    have hOw := (own_no HO.out HSq.out).1
    rw [HLen.out] at hOw
    have HOw := Lib.hid hOw
    clear hOw
    go_wp2_with (at_builtin; refine list_append_own _ rfl (.tmp 83) (.tmp 85) 22 48 _ 3 32 rfl Tryz.underlying22 infoC rfl (by decide) (.slice (some ⟨g, 0, none⟩) (ys.length + 1) cc) (ys.length + 1) ((ys ++ [(⟨xk, xn, xt⟩ : CompD)]).flatMap compCells) rfl (by exact HOw.out.alloc _) ⟨wq.heap.size, 0, none⟩ 1 1 (compCells ⟨ck, cn, ct⟩) rfl rfl (by exact cells_new wq #[.int .i64 ck, .int .i64 cn, .string ct] TC) (by simp [compCells, Value.oneCell']) (by unfold maxLen; omega) (by omega) ?_; intro v1 w2 hown hg hat; have HM := Lib.hid (own_more (c := ⟨ck, cn, ct⟩) HLen.out HO.out HB.out ((HSq.out.alloc (.cells #[.int .i64 ck, .int .i64 cn, .string ct] TC)).none) hown hg hat); clear hown hg hat)
    go_ret
    exact ⟨_, rfl, by rw [HEq.out]; exact HM.out.1, HM.out.2⟩
end Go.Proofs.YtjeamfoicpgkhaaGreatDoor.RefAdd

/- A piece is added to an edit: the reference's way; the case that changes the places, and all. -/
namespace Go.Proofs.YtjeamfoicpgkhaaGreatDoor.RefAdd
open Go.RowKit Go.Lib Go.Proofs.YtjeamfoicpgkhaaGreatDoor.Mem Go.Proofs.YtjeamfoicpgkhaaGreatDoor.Read Go.Proofs.YtjeamfoicpgkhaaGreatDoor.AppSl Go.Proofs.YtjeamfoicpgkhaaGreatDoor.Tree Go.Proofs.YtjeamfoicpgkhaaGreatDoor.Data Go.Proofs.YtjeamfoicpgkhaaGreatDoor.CompR Go.Proofs.YtjeamfoicpgkhaaGreatDoor.MsgR Go.Proofs.YtjeamfoicpgkhaaGreatDoor.May Go.Proofs.YtjeamfoicpgkhaaGreatDoor.AddL Go.Proofs.YtjeamfoicpgkhaaGreatDoor.RefMay1
open Go.Proofs.YtjeamfoicpgkhaaGreatDoor.CompMay (aggC)
set_option linter.unusedVariables false
set_option linter.unusedSimpArgs false

set_option maxHeartbeats 16000000 in
set_option maxRecDepth 100000 in
theorem Add_cut (base : Nat) (v : Value) (ys : List CompD) (x c : CompD) (w : World) (hb : base ≤ w.heap.size) (ho : CompsO base w (ys ++ [x]) v) (hn : ys.length ≤ 10000) (hz : sizeR c ≠ 0) (hk : x.kind ≠ c.kind) (h1 : c.kind = 1) (h2 : x.kind = 2) (hx : ∀ y ∈ ys ++ [x], y.text.size ≤ maxLen)
    (ih : ∀ (w' : World) (base' : Nat) (v' : Value), base' ≤ w'.heap.size → CompsO base' w' ys v' → Calls Tryz.prog 138 #[v', aggC c] w' (AddPost base' w' v' (addL ys c))) : Calls Tryz.prog 138 #[v, aggC c] w (AddPost base w v (addL (ys ++ [x]) c)) := by
  have HX := Lib.hid hx
  have HIH := Lib.hid ih
  have HLl : Hid ((addL ys c).length ≤ ys.length + 1) := Lib.hid (addL_len ys c)
  clear hx ih
  obtain ⟨A, cc, rfl, hc1, hc2⟩ := row_slice ho.1
  obtain ⟨g, rfl, x0, x1, x2, f0, f1, f2⟩ := last_cells ho
  have hgl := (ho.1.lt g rfl).2
  rw [show (ys ++ [x]).length = ys.length + 1 by simp] at *
  have HO := Lib.hid ho
  have HB := Lib.hid hb
  have HEq := Lib.hid (addL_cut (ys := ys) hz hk h1 h2)
  have HZ := Lib.hid hz
  obtain ⟨xk, xn, xt⟩ := x
  obtain ⟨ck, cn, ct⟩ := c
  simp only at *
  have hkf : (xk == ck) = false := beq_eq_false_iff_ne.2 hk; have hc1' : (ck == 1) = true := (by rw [h1]; rfl); have hx2 : (xk == 2) = true := (by rw [h2]; rfl); clear h1 h2 hk
  clear ho hb hz
  unfold aggC
  simp only
  go_enter Tryz.func138, Tryz.ntmps138
  go_wp2_with fail
  refine (size_ref ⟨ck, cn, ct⟩ _).mono ?_
  rintro e w1 ⟨rfl, hs1⟩
  have HS1 : Hid (Step No w w1) := Lib.hid (((Step.refl No w).alloc _).trans hs1 (fun _ f _ => f))
  have HBk := Lib.hid (hs1.blk (blk_new w _) (fun f => f))
  have a0 := blk_cell HBk.out 0
  have a1 := blk_cell HBk.out 1
  have a2 := blk_cell HBk.out 2
  simp at a0 a1 a2
  have y0 := HS1.out.cell x0 (fun f => f)
  have y1 := HS1.out.cell x1 (fun f => f)
  have y2 := HS1.out.cell x2 (fun f => f)
  clear hs1 x0 x1 x2 f0 f1 f2
  have hz := HZ.out
  generalize sizeR ⟨ck, cn, ct⟩ = z at *
  have hz0 : (z == 0) = false := beq_eq_false_iff_ne.2 hz
  clear hz HZ
  have hk0 : (0 : Int) ≤ ys.length := by omega
  have hk1 : (ys.length : Int) < ys.length + 1 := by omega
  go_wp2_with fail
  go_quiet (fail)
  go_upto_region 10 with (fail)
  generalize hW : World.drewN w1 _ = wq at *
  have HSq : Hid (Step No w wq) := Lib.hid (by rw [← hW]; exact HS1.out.drewN _)
  have HBq : Hid (wq.heap[w.heap.size]? = some (.cells #[.int .i64 ck, .int .i64 cn, .string ct] TC (0, 0))) := Lib.hid (by rw [← hW]; exact HBk.out)
  have b0 : wq.cell? ⟨w.heap.size, 0, none⟩ = some (.int .i64 ck) := by rw [← hW]; exact a0
  have b1 : wq.cell? ⟨w.heap.size, 1, none⟩ = some (.int .i64 cn) := by rw [← hW]; exact a1
  have b2 : wq.cell? ⟨w.heap.size, 2, none⟩ = some (.string ct) := by rw [← hW]; exact a2
  have z0 : wq.cell? ⟨g, ys.length * 3, none⟩ = some (.int .i64 xk) := by rw [← hW]; exact y0
  have z1 : wq.cell? ⟨g, ys.length * 3 + 1, none⟩ = some (.int .i64 xn) := by rw [← hW]; exact y1
  have z2 : wq.cell? ⟨g, ys.length * 3 + 2, none⟩ = some (.string xt) := by rw [← hW]; exact y2
  clear hW a0 a1 a2 y0 y1 y2
  go_upto_region 12 with (fail)
  generalize hW : World.alloc wq _ = wx at *
  have HSx : Hid (Step No w wx) := Lib.hid (by rw [← hW]; exact HSq.out.alloc _)
  have HCx : Hid (wx.heap[w.heap.size]? = some (.cells #[.int .i64 ck, .int .i64 cn, .string ct] TC (0, 0))) := Lib.hid (by rw [← hW]; exact blk_alloc HBq.out _)
  have H7x : Hid (wx.heap[wq.heap.size]? = some (.cells #[.int .i64 xk, .int .i64 xn, .string xt] TC (0, 0))) := Lib.hid (by rw [← hW]; exact blk_new wq _)
  clear hW b0 b1 b2 z0 z1 z2
  generalize wq.heap.size = b7 at *
  have HX' := Lib.hid ((sl_front ((own_no HO.out HSx.out).reads HX.out)).to (Step.alloc (Step.refl No wx) (.cells #[] TC)))
  have H0 := Lib.hid (World.ownsRow_lit (base := 0) (size := 3) (e := TC) wx #[] 0 (Nat.zero_le _) (Nat.zero_le _) rfl)
  go_upto_region 13 with (at_builtin; refine list_append_sl _ rfl (.tmp 70) (.tmp 73) 22 48 _ 3 32 rfl Tryz.underlying22 infoC rfl (by decide) (.slice (some ⟨wx.heap.size, 0, none⟩) 0 0) 0 [] rfl (by exact H0.out) (some ⟨g, 0, none⟩) ys.length cc (ys.flatMap compCells) rfl (comps_news HX'.out).1 (comps_news HX'.out).2.1 (comps_news HX'.out).2.2 comps_one (by unfold maxLen; omega) (by omega) ?_; intro v1 w2 hown hg hat; have HQ := Lib.hid (row_new (xs := ys) (by simpa using hown) hg hat); clear hown hg hat; obtain ⟨Av, cv, rfl, -, -⟩ := row_slice HQ.out.1.1)
  have HC2 := Lib.hid (HQ.out.2.blk HCx.out (fun f => f))
  have d0 := blk_cell HC2.out 0
  have d1 := blk_cell HC2.out 1
  have d2 := blk_cell HC2.out 2
  simp at d0 d1 d2
  go_wp2_with fail
  refine (HIH.out w2 wx.heap.size _ HQ.out.2.size HQ.out.1).mono ?_
  rintro e w3 ⟨v', rfl, ho3, hs3⟩
  obtain ⟨Bv, bv, rfl, -, -⟩ := row_slice ho3.1
  have HO3 := Lib.hid ho3
  have HS3 : Hid (Step No wx w3) := Lib.hid (HQ.out.2.trans hs3 (fun k hk hlt => absurd (HQ.out.1.2 k hk) (by omega)))
  have H7 := Lib.hid (HS3.out.blk H7x.out (fun f => f))
  have s0 := blk_cell H7.out 0
  have s1 := blk_cell H7.out 1
  have s2 := blk_cell H7.out 2
  simp at s0 s1 s2
  clear d0 d1 d2 ho3 hs3
  have hL := HLl.out
  generalize hxl : addL ys ⟨ck, cn, ct⟩ = zs at *
  go_wp2_with (at_builtin; refine list_append_own _ rfl (.tmp 78) (.tmp 80) 22 48 _ 3 32 rfl Tryz.underlying22 infoC rfl (by decide) (.slice Bv zs.length bv) zs.length (zs.flatMap compCells) rfl (by exact HO3.out.1.alloc _) ⟨w3.heap.size, 0, none⟩ 1 1 (compCells ⟨xk, xn, xt⟩) rfl rfl (by exact cells_new w3 #[.int .i64 xk, .int .i64 xn, .string xt] TC) (by simp [compCells, Value.oneCell']) (by unfold maxLen; omega) (by omega) ?_; intro v4 w4 hown hg hat; have HM := Lib.hid (own_more (c := ⟨xk, xn, xt⟩) rfl HO3.out HS3.out.size (((Step.refl No w3).alloc (.cells #[.int .i64 xk, .int .i64 xn, .string xt] TC)).none) hown hg hat); clear hown hg hat)
  go_ret
  have hle : base ≤ wx.heap.size := Nat.le_trans HB.out HSx.out.size
  have hsz := HSx.out.size
  have hown : ∀ k, Ok (.slice Bv zs.length bv) k → wx.heap.size ≤ k := fun k hk => HO3.out.2 k hk
  exact ⟨_, rfl, by rw [HEq.out]; exact ⟨HM.out.1.1, fun k hk => Nat.le_trans hle (HM.out.1.2 k hk)⟩, ((HSx.out.trans HS3.out (fun _ f _ => f)).none).trans HM.out.2 (fun k hk hlt => absurd (hown k hk) (by omega))⟩
theorem Add_any (c : CompD) (hc : c.text.size ≤ 100000000) : ∀ (n : Nat) (xs : List CompD), xs.length = n → n ≤ 10000 → (∀ y ∈ xs, y.text.size ≤ 100000000) → ∀ (w : World) (base : Nat) (v : Value), base ≤ w.heap.size → CompsO base w xs v → Calls Tryz.prog 138 #[v, aggC c] w (AddPost base w v (addL xs c)) := by
  intro n
  induction n with
  | zero =>
    intro xs hl _ _ w base v hb ho
    obtain rfl : xs = [] := List.eq_nil_of_length_eq_zero hl
    by_cases hz : sizeR c = 0
    · exact Add_zero base v [] c w ho hz
    · exact Add_nil base v c w hb ho hz
  | succ n ih =>
    intro xs hl hn hx w base v hb ho
    by_cases hz : sizeR c = 0
    · exact Add_zero base v xs c w ho hz
    · rcases List.eq_nil_or_concat xs with rfl | ⟨ys, x, rfl⟩
      · cases hl
      · rw [List.concat_eq_append] at *
        have hyl : ys.length = n := by simpa using hl
        have hm : (100000000 : Nat) ≤ maxLen := by unfold maxLen; decide
        have hxx := hx x (by simp)
        by_cases hk : x.kind = c.kind
        · exact Add_same base v ys x c w hb ho (by omega) hxx hc hz hk
        · by_cases h12 : c.kind = 1 ∧ x.kind = 2
          · exact Add_cut base v ys x c w hb ho (by omega) hz hk h12.1 h12.2 (fun y hy => Nat.le_trans (hx y hy) hm) (fun w' base' v' hb' ho' => ih ys hyl (by omega) (fun y hy => hx y (by simp [hy])) w' base' v' hb' ho')
          · exact Add_more base v ys x c w hb ho (by omega) hz hk h12
end Go.Proofs.YtjeamfoicpgkhaaGreatDoor.RefAdd

/- May an edit be? The reference's answer. -/
namespace Go.Proofs.YtjeamfoicpgkhaaGreatDoor.RefNorm
open Go.RowKit Go.Lib Go.Proofs.YtjeamfoicpgkhaaGreatDoor.Mem Go.Proofs.YtjeamfoicpgkhaaGreatDoor.Read Go.Proofs.YtjeamfoicpgkhaaGreatDoor.AppSl Go.Proofs.YtjeamfoicpgkhaaGreatDoor.Tree Go.Proofs.YtjeamfoicpgkhaaGreatDoor.Data Go.Proofs.YtjeamfoicpgkhaaGreatDoor.CompR Go.Proofs.YtjeamfoicpgkhaaGreatDoor.MsgR Go.Proofs.YtjeamfoicpgkhaaGreatDoor.May Go.Proofs.YtjeamfoicpgkhaaGreatDoor.AddL Go.Proofs.YtjeamfoicpgkhaaGreatDoor.RefMay1 Go.Proofs.YtjeamfoicpgkhaaGreatDoor.RefAdd
open Go.Proofs.YtjeamfoicpgkhaaGreatDoor.CompMay (aggC)
open Go.Proofs.YtjeamfoicpgkhaaGreatDoor.Same (comp_cell compEq compEq_iff eqComp)
set_option linter.unusedVariables false
set_option linter.unusedSimpArgs false
theorem fromR_next : ∀ (xs : List CompD) (k : Nat) (h : k < xs.length), fromR (xs.take (k + 1)) = fromR (xs.take k) + (if xs[k].kind = 1 then 0 else sizeR xs[k])
  | [], k, h => absurd h (Nat.not_lt_zero _)
  | c :: cs, 0, _ => by simp [fromR]
  | c :: cs, k + 1, h => by
    have := fromR_next cs k (by simpa using h)
    simp only [List.take_succ_cons, fromR, List.getElem_cons_succ] at this ⊢
    rw [this]
    omega
theorem toR_next : ∀ (xs : List CompD) (k : Nat) (h : k < xs.length), toR (xs.take (k + 1)) = toR (xs.take k) + (if xs[k].kind = 2 then 0 else sizeR xs[k])
  | [], k, h => absurd h (Nat.not_lt_zero _)
  | c :: cs, 0, _ => by simp [toR]
  | c :: cs, k + 1, h => by
    have := toR_next cs k (by simpa using h)
    simp only [List.take_succ_cons, toR, List.getElem_cons_succ] at this ⊢
    rw [this]
    omega
theorem sums_le {B : Int} (hB : 0 ≤ B) : ∀ {xs : List CompD}, (∀ x ∈ xs, 0 ≤ sizeR x ∧ sizeR x ≤ B) → 0 ≤ fromR xs ∧ fromR xs ≤ B * xs.length ∧ 0 ≤ toR xs ∧ toR xs ≤ B * xs.length
  | [], _ => by simp [fromR, toR]
  | c :: cs, h => by
    obtain ⟨h1, h2, h3, h4⟩ := sums_le hB (xs := cs) (fun x hx => h x (by simp [hx]))
    have h5 := h c (by simp)
    have e : B * ((c :: cs).length : Int) = B * cs.length + B := by rw [List.length_cons, Int.natCast_add, Int.mul_add]; simp
    rw [e]
    unfold fromR toR
    split <;> split <;> omega
set_option maxHeartbeats 8000000 in
set_option maxRecDepth 100000 in
theorem lengths_ref (w : World) (xs : List CompD) (v : Value) (h : CompsR w xs v) (hB : ∀ x ∈ xs, 0 ≤ sizeR x ∧ sizeR x ≤ 20000000) (hn : xs.length ≤ 5000) : Calls Tryz.prog 139 #[v] w fun e w' => e = .returned (.tuple #[.int .i64 (fromR xs), .int .i64 (toR xs)]) ∧ Step No w w' := by
  obtain ⟨A, c, rfl, -, -⟩ := comps_len h
  have HA := Lib.hid h
  have HB := Lib.hid hB
  clear h hB
  go_enter Tryz.func139, Tryz.ntmps139
  go_wp2
  go_loopw [6, 4, 5] (fun i a b wr => ∃ k : Nat, k ≤ xs.length ∧ i = .int .i64 k ∧ a = .int .i64 (fromR (xs.take k)) ∧ b = .int .i64 (toR (xs.take k)) ∧ Step No w wr) (fun i _ _ _ => xs.length - (RowKit.intOf i).toNat)
  case atStart => exact ⟨0, Nat.zero_le _, rfl, by simp [fromR], by simp [toR], Step.refl _ _⟩
  case round =>
    obtain ⟨k, hk, rfl, rfl, rfl, hs⟩ := hrel
    by_cases hlt : k < xs.length
    · obtain ⟨ad, rfl, hz, c0, c1, c2⟩ := comps_cells (HA.out.to hs) k hlt
      have hi0 : (0 : Int) ≤ k := by omega
      have hi1 : (k : Int) < xs.length := by omega
      have HSz := Lib.hid (HB.out _ (List.getElem_mem hlt))
      have HFn := Lib.hid (fromR_next xs k hlt)
      have HTn := Lib.hid (toR_next xs k hlt)
      have hsum := sums_le (B := 20000000) (by decide) (xs := xs.take k) (fun x hx => HB.out x (List.mem_of_mem_take hx))
      have hll : ((xs.take k).length : Int) ≤ 5000 := by rw [List.length_take]; omega
      have HF1 : Hid (0 ≤ fromR (xs.take k) ∧ fromR (xs.take k) ≤ 100000000000) := Lib.hid ⟨hsum.1, by have := hsum.2.1; omega⟩
      have HF2 : Hid (0 ≤ toR (xs.take k) ∧ toR (xs.take k) ≤ 100000000000) := Lib.hid ⟨hsum.2.2.1, by have := hsum.2.2.2; omega⟩
      clear hsum hll
      generalize xs[k] = x at *
      obtain ⟨q, n, t⟩ := x
      simp only at c0 c1 c2 hz
      generalize fromR (xs.take k) = fr at *
      generalize toR (xs.take k) = tr at *
      have Hhs := Lib.hid hs
      clear hs
      by_cases k1 : q = 1
      · subst k1
        go_wp2_with fail
        refine (size_ref ⟨1, n, t⟩ _).mono ?_
        rintro e w2 ⟨rfl, hs2⟩
        have hsz := HSz.out
        have HS2 : Hid (Step No w w2) := Lib.hid (Hhs.out.trans hs2 (fun _ f _ => f))
        have d0 := hs2.cell c0 (fun f => f)
        generalize sizeR ⟨1, n, t⟩ = z at *
        have hf1 := HF1.out
        have hf2 := HF2.out
        clear hs2 c0 c1 c2
        go_wp2
        go_roundw
        case rel => exact ⟨k + 1, hlt, rfl, by rw [HFn.out]; simp, by rw [HTn.out]; rfl, HS2.out⟩
        case measure => simp [RowKit.intOf]; omega
      · have b1 : (q != 1) = true := bne_iff_ne.2 k1
        by_cases k2 : q = 2
        · subst k2
          go_wp2_with fail
          refine (size_ref ⟨2, n, t⟩ _).mono ?_
          rintro e w2 ⟨rfl, hs2⟩
          have hsz := HSz.out
          have HS2 : Hid (Step No w w2) := Lib.hid (Hhs.out.trans hs2 (fun _ f _ => f))
          have d0 := hs2.cell c0 (fun f => f)
          generalize sizeR ⟨2, n, t⟩ = z at *
          have hf1 := HF1.out
          have hf2 := HF2.out
          clear hs2 c0 c1 c2
          go_wp2
          go_roundw
          case rel => exact ⟨k + 1, hlt, rfl, by rw [HFn.out]; rfl, by rw [HTn.out]; simp, HS2.out⟩
          case measure => simp [RowKit.intOf]; omega
        · have b2 : (q != 2) = true := bne_iff_ne.2 k2
          go_wp2_with fail
          refine (size_ref ⟨q, n, t⟩ _).mono ?_
          rintro e w2 ⟨rfl, hs2⟩
          have hsz := HSz.out
          have HS2 : Hid (Step No w w2) := Lib.hid (Hhs.out.trans hs2 (fun _ f _ => f))
          have d0 := hs2.cell c0 (fun f => f)
          generalize sizeR ⟨q, n, t⟩ = z at *
          have hf1 := HF1.out
          have hf2 := HF2.out
          clear hs2 c0 c1 c2
          go_wp2
          go_roundw
          case rel => exact ⟨k + 1, hlt, rfl, by rw [HFn.out]; simp [k1], by rw [HTn.out]; simp [k2], HS2.out⟩
          case measure => simp [RowKit.intOf]; omega
    · obtain rfl : k = xs.length := by omega
      rw [List.take_length]
      have Hhs := Lib.hid hs
      clear hs
      go_wp2
      go_ret2
      exact ⟨rfl, Hhs.out⟩
end Go.Proofs.YtjeamfoicpgkhaaGreatDoor.RefNorm

/- May an edit be? The reference's answer: the normal form, and that it is the edit itself. -/
namespace Go.Proofs.YtjeamfoicpgkhaaGreatDoor.RefNorm
open Go.RowKit Go.Lib Go.Proofs.YtjeamfoicpgkhaaGreatDoor.Mem Go.Proofs.YtjeamfoicpgkhaaGreatDoor.Read Go.Proofs.YtjeamfoicpgkhaaGreatDoor.AppSl Go.Proofs.YtjeamfoicpgkhaaGreatDoor.Tree Go.Proofs.YtjeamfoicpgkhaaGreatDoor.Data Go.Proofs.YtjeamfoicpgkhaaGreatDoor.CompR Go.Proofs.YtjeamfoicpgkhaaGreatDoor.MsgR Go.Proofs.YtjeamfoicpgkhaaGreatDoor.May Go.Proofs.YtjeamfoicpgkhaaGreatDoor.AddL Go.Proofs.YtjeamfoicpgkhaaGreatDoor.RefMay1 Go.Proofs.YtjeamfoicpgkhaaGreatDoor.RefAdd
open Go.Proofs.YtjeamfoicpgkhaaGreatDoor.CompMay (aggC)
open Go.Proofs.YtjeamfoicpgkhaaGreatDoor.Same (comp_cell compEq compEq_iff eqComp)
set_option linter.unusedVariables false
set_option linter.unusedSimpArgs false
/-- What makes an edit one that has a normal form. -/
def Fine (cs : List CompD) : Prop := cs.length ≤ 4096 ∧ (∀ c ∈ cs, rawB c = true) ∧ fromR (normL cs) ≤ 4096 ∧ toR (normL cs) ≤ 4096
def NormPost (cs : List CompD) (w : World) (e : Ending) (w' : World) : Prop := Step No w w' ∧
  ((Fine cs ∧ ∃ v', e = .returned (.tuple #[v', .int .i64 0]) ∧ CompsO w.heap.size w' (normL cs) v') ∨ (¬ Fine cs ∧ e = .returned (.tuple #[.slice none 0 0, .int .i64 200])))
theorem raw_take {cs : List CompD} {k : Nat} (hlt : k < cs.length) (h : ∀ c ∈ cs.take k, rawB c = true) (hk : rawB cs[k] = true) : ∀ c ∈ cs.take (k + 1), rawB c = true := by
  intro c hc
  rw [List.take_succ_eq_append_getElem hlt] at hc
  rcases List.mem_append.1 hc with hc | hc
  · exact h c hc
  · simp at hc
    subst hc
    exact hk
set_option maxHeartbeats 8000000 in
set_option maxRecDepth 100000 in
theorem Normal_ref (w : World) (cs : List CompD) (v : Value) (h : CompsR w cs v) : Calls Tryz.prog 110 #[v] w (NormPost cs w) := by
  obtain ⟨A, c, rfl, hc1, hc2⟩ := comps_len h
  unfold maxLen at hc2
  have HA := Lib.hid h
  clear h
  by_cases hn : cs.length ≤ 4096
  · have hg : ¬ (4096 : Int) < cs.length := by omega
    go_enter Tryz.func110, Tryz.ntmps110
    go_wp2
    go_loopw [5, 4] (fun i o wr => ∃ (k : Nat) (vo : Value), k ≤ cs.length ∧ i = .int .i64 k ∧ o = vo ∧ CompsO w.heap.size wr (normL (cs.take k)) vo ∧ (∀ c ∈ cs.take k, rawB c = true) ∧ Step No w wr) (fun i _ _ => cs.length - (RowKit.intOf i).toNat)
    case atStart => exact ⟨0, _, Nat.zero_le _, rfl, rfl, ⟨World.ownsRow_nil _ _ _ _, fun k hk => by simp [Value.ownBlock] at hk⟩, fun c hc => by simp at hc, Step.refl _ _⟩
    case round =>
      obtain ⟨k, vo, hk, rfl, rfl, ho, hr, hs⟩ := hrel
      obtain ⟨B, b, rfl, hb1, hb2⟩ := row_slice ho.1
      by_cases hlt : k < cs.length
      · obtain ⟨ad, rfl, hz, c0, c1, c2⟩ := comps_cells (HA.out.to hs) k hlt
        have hi0 : (0 : Int) ≤ k := by omega
        have hi1 : (k : Int) < cs.length := by omega
        have HR := Lib.hid hr
        have HO := Lib.hid ho
        have HN := Lib.hid (normL_next cs k hlt)
        have HIn := Lib.hid (List.getElem_mem hlt)
        have HRt := Lib.hid (fun hx => raw_take hlt hr hx)
        have HTl : Hid (∀ x ∈ normL (cs.take k), x.text.size ≤ 100000000) := Lib.hid fun x hx => by
          have := (normL_at (cs := cs.take k) hr (by rw [List.length_take]; omega) k (by rw [List.length_take]; omega)).2 x (by rw [List.take_take, Nat.min_self]; exact hx)
          omega
        have HLk : Hid ((normL (cs.take k)).length ≤ 4096) := Lib.hid (by have := normL_len (cs.take k); rw [List.length_take] at this; omega)
        generalize cs[k] = x at *
        have hx2 := fun h => (raw_size (c := x) h).2.2.1
        have HX2 := Lib.hid hx2
        obtain ⟨q, n, t⟩ := x
        simp only at c0 c1 c2 hz
        clear hr ho hb1 hb2 hx2
        have Hhs := Lib.hid hs
        clear hs
        go_wp2_with fail
        refine (compMay_ref ⟨q, n, t⟩ _).mono ?_
        rintro e w2 ⟨rfl, hs2⟩
        have HS2 : Hid (Step No w w2) := Lib.hid (Hhs.out.trans hs2 (fun _ f _ => f))
        have HO2 := Lib.hid (own_no HO.out hs2)
        have d0 := hs2.cell c0 (fun f => f)
        have d1 := hs2.cell c1 (fun f => f)
        have d2 := hs2.cell c2 (fun f => f)
        clear hs2 c0 c1 c2
        cases hrb : rawB ⟨q, n, t⟩ with
        | false =>
          have HB := Lib.hid hrb
          clear hrb
          go_wp2
          go_ret2
          exact ⟨HS2.out, .inr ⟨(fun hF => by have := hF.2.1 _ HIn.out; rw [HB.out] at this; cases this), rfl⟩⟩
        | true =>
          have HB := Lib.hid hrb
          clear hrb
          go_wp2_with fail
          refine (Add_any ⟨q, n, t⟩ (show t.size ≤ 100000000 by have := HX2.out HB.out; omega) _ (normL (cs.take k)) rfl (by have := HLk.out; omega) HTl.out w2 w.heap.size _ HS2.out.size HO2.out).mono ?_
          rintro e w3 ⟨v', rfl, ho3, hs3⟩
          have HS3 : Hid (Step No w w3) := Lib.hid (HS2.out.trans hs3 (fun i hi hlt => absurd (HO2.out.2 i hi) (by omega)))
          have HO3 := Lib.hid ho3
          clear ho3 hs3 d0 d1 d2
          go_wp2
          go_roundw
          case rel => exact ⟨k + 1, v', hlt, rfl, rfl, by rw [HN.out]; exact HO3.out, HRt.out HB.out, HS3.out⟩
          case measure => simp [RowKit.intOf]; omega
      · obtain rfl : k = cs.length := by omega
        rw [List.take_length] at ho hr hb1
        have HR := Lib.hid hr
        have HO := Lib.hid ho
        have hat := normL_at (cs := cs) hr hn cs.length (Nat.le_refl _)
        rw [List.take_length] at hat
        have hll := normL_len cs
        have HSz : Hid (∀ x ∈ normL cs, 0 ≤ sizeR x ∧ sizeR x ≤ 20000000) := Lib.hid fun x hx => by have := hat.1 x hx; omega
        have hm : (16777216 : Nat) ≤ maxLen := by unfold maxLen; decide
        have HRd := Lib.hid (ho.reads (fun x hx => Nat.le_trans (hat.2 x hx) (by omega)))
        have HLl : Hid ((normL cs).length ≤ 5000) := Lib.hid (by omega)
        clear hr ho hat hb1 hb2 hll hm
        have Hhs := Lib.hid hs
        clear hs
        go_wp2_with fail
        refine (lengths_ref wr (normL cs) _ HRd.out HSz.out HLl.out).mono ?_
        rintro e w2 ⟨rfl, hs2⟩
        have HS2 : Hid (Step No w w2) := Lib.hid (Hhs.out.trans hs2 (fun _ f _ => f))
        have HO2 := Lib.hid (own_no HO.out hs2)
        clear hs2
        by_cases hf : fromR (normL cs) ≤ 4096
        · by_cases ht : toR (normL cs) ≤ 4096
          · have HF : Hid (Fine cs) := Lib.hid ⟨hn, HR.out, hf, ht⟩
            have g1 : ¬ (4096 : Int) < fromR (normL cs) := by omega
            have g2 : ¬ (4096 : Int) < toR (normL cs) := by omega
            clear hf ht
            generalize fromR (normL cs) = fr at *
            generalize toR (normL cs) = tr at *
            go_wp2
            go_ret2
            exact ⟨HS2.out, .inl ⟨HF.out, _, rfl, HO2.out⟩⟩
          · have HF : Hid (¬ Fine cs) := Lib.hid fun hF => ht hF.2.2.2
            have g1 : ¬ (4096 : Int) < fromR (normL cs) := by omega
            have g2 : (4096 : Int) < toR (normL cs) := by omega
            clear hf ht
            generalize fromR (normL cs) = fr at *
            generalize toR (normL cs) = tr at *
            go_wp2
            go_ret2
            exact ⟨HS2.out, .inr ⟨HF.out, rfl⟩⟩
        · have HF : Hid (¬ Fine cs) := Lib.hid fun hF => hf hF.2.2.1
          have g1 : (4096 : Int) < fromR (normL cs) := by omega
          clear hf
          generalize fromR (normL cs) = fr at *
          generalize toR (normL cs) = tr at *
          go_wp2
          go_ret2
          exact ⟨HS2.out, .inr ⟨HF.out, rfl⟩⟩
  · have hg : (4096 : Int) < cs.length := by omega
    have HF : Hid (¬ Fine cs) := Lib.hid fun hF => hn hF.1
    clear hn
    go_enter Tryz.func110, Tryz.ntmps110
    go_wp2
    go_ret2
    exact ⟨(by repeat' (first | exact Step.refl _ _ | with_reducible assumption | refine Step.drew ?_ | refine Step.drewN ?_ _ | refine Step.alloc ?_ _)), .inr ⟨HF.out, rfl⟩⟩
set_option maxHeartbeats 8000000 in
set_option maxRecDepth 100000 in
theorem CompsMay_ref (w : World) (cs : List CompD) (v : Value) (h : CompsR w cs v) : Calls Tryz.prog 64 #[v] w fun e w' => e = .returned (.bool (editB cs)) ∧ Step No w w' := by
  obtain ⟨A, c, rfl, hc1, hc2⟩ := comps_len h
  unfold maxLen at hc2
  have HA := Lib.hid h
  have HE := Lib.hid (edit_norm cs)
  have HNo : Hid (¬ (Fine cs ∧ normL cs = cs) → editB cs = false) := Lib.hid fun hn => by
    rw [← Bool.not_eq_true, edit_norm]
    exact fun hh => hn ⟨⟨hh.1, hh.2.1, hh.2.2.1, hh.2.2.2.1⟩, hh.2.2.2.2⟩
  clear h
  go_enter Tryz.func64, Tryz.ntmps64
  go_wp2_with fail
  refine (Normal_ref w cs _ HA.out).mono ?_
  rintro e w1 ⟨hs1, hp⟩
  have HS1 := Lib.hid hs1
  clear hs1
  rcases hp with ⟨hF, v', rfl, ho⟩ | ⟨hF, rfl⟩
  · have HF := Lib.hid hF
    have HFs := Lib.hid (And.intro hF.2.2.1 hF.2.2.2)
    have hat := normL_at (cs := cs) hF.2.1 hF.1 cs.length (Nat.le_refl _)
    rw [List.take_length] at hat
    have hm : (16777216 : Nat) ≤ maxLen := by unfold maxLen; decide
    have hc4 := hF.1
    have HRd := Lib.hid (ho.reads (fun x hx => Nat.le_trans (hat.2 x hx) (by omega)))
    obtain ⟨B, b, rfl, hb1, hb2⟩ := comps_len HRd.out
    unfold maxLen at hb2
    clear hF ho hat hm
    by_cases hl : (normL cs).length = cs.length
    · have hne : (((normL cs).length : Int) != (cs.length : Int)) = false := by rw [hl]; exact bne_self_eq_false _
      have hne' : ((normL cs).length != cs.length) = false := by rw [hl]; exact bne_self_eq_false _
      have HL := Lib.hid hl
      generalize normL cs = ys at *
      clear hl
      go_wp2
      go_loopw [5] (fun i wr => ∃ k : Nat, k ≤ cs.length ∧ i = .int .i64 k ∧ Step No w1 wr ∧ ∀ j, j < k → ys[j]? = cs[j]?) (fun i _ => cs.length - (RowKit.intOf i).toNat)
      case atStart => exact ⟨0, Nat.zero_le _, rfl, Step.refl _ _, fun j h => absurd h (Nat.not_lt_zero _)⟩
      case round =>
        obtain ⟨k, hk, rfl, hs, he⟩ := hrel
        by_cases hlt : k < cs.length
        · have hlt2 : k < ys.length := by rw [HL.out]; exact hlt
          obtain ⟨p, rfl, c0, c1, c2⟩ := comp_cell (HRd.out.to hs) k hlt2
          obtain ⟨q, rfl, d0, d1, d2⟩ := comp_cell (HA.out.to (HS1.out.trans hs (fun _ f _ => f))) k hlt
          have hi1 : (k : Int) < ys.length := by omega
          have hi2 : (k : Int) < cs.length := by omega
          have hi0 : (0 : Int) ≤ k := by omega
          have HX : Hid (ys[k]? = some ys[k]) := Lib.hid (List.getElem?_eq_getElem hlt2)
          have HY : Hid (cs[k]? = some cs[k]) := Lib.hid (List.getElem?_eq_getElem hlt)
          generalize ys[k] = s at *
          generalize cs[k] = t at *
          have Hhe := Lib.hid he
          have Hhs := Lib.hid hs
          clear he hs
          by_cases hst : s = t
          · subst hst
            obtain ⟨kd, n, tx⟩ := s
            simp only at c0 c1 c2 d0 d1 d2
            have hq := fun d w => eqComp d w kd kd n n tx tx
            have hqb : compEq ⟨kd, n, tx⟩ ⟨kd, n, tx⟩ = true := compEq_iff.2 rfl
            rw [hqb] at hq
            go_wp2
            go_quiet (fail)
            go_wp2
            go_roundw
            case rel => exact ⟨k + 1, hlt, rfl, Hhs.out.drewN _, fun j hj => by
                rcases Nat.lt_succ_iff_lt_or_eq.1 hj with h | rfl
                · exact Hhe.out j h
                · rw [HX.out, HY.out]⟩
            case measure => simp [RowKit.intOf]; omega
          · have HD : Hid (ys ≠ cs) := Lib.hid (fun e => hst (by have := HX.out; rw [e, HY.out] at this; injection this with this; exact this.symm))
            obtain ⟨kd, n, t1⟩ := s
            obtain ⟨kd', n', t2⟩ := t
            have hq := fun d w => eqComp d w kd kd' n n' t1 t2
            have hqb : compEq ⟨kd, n, t1⟩ ⟨kd', n', t2⟩ = false := by rw [← Bool.not_eq_true, compEq_iff]; exact hst
            rw [hqb] at hq
            simp only at c0 c1 c2 d0 d1 d2
            clear hst hqb
            go_wp2
            go_quiet (fail)
            go_wp2
            go_ret
            exact ⟨(by rw [HNo.out (fun hh => HD.out hh.2)]; rfl), HS1.out.trans (Hhs.out.drewN _) (fun _ f _ => f)⟩
        · have hke : k = cs.length := by omega
          subst hke
          have HT : Hid (ys = cs) := Lib.hid (by
            apply List.ext_getElem?
            intro j
            by_cases hj : j < cs.length
            · exact he j hj
            · rw [List.getElem?_eq_none (by rw [HL.out]; omega), List.getElem?_eq_none (by omega)])
          have Hhe := Lib.hid he
          have Hhs := Lib.hid hs
          clear he hs
          go_wp2
          go_ret
          exact ⟨(by rw [HE.out.2 ⟨HF.out.1, HF.out.2.1, HFs.out.1, HFs.out.2, HT.out⟩]; rfl), HS1.out.trans Hhs.out (fun _ f _ => f)⟩
    · have hne : (((normL cs).length : Int) != (cs.length : Int)) = true := by rw [bne_iff_ne]; omega
      have hne' : ((normL cs).length != cs.length) = true := by rw [bne_iff_ne]; exact hl
      have HEq : Hid (editB cs = false) := Lib.hid (HNo.out (fun hh => hl (by rw [hh.2])))
      clear hl
      go_wp2
      go_ret
      exact ⟨(by rw [HEq.out]; rfl), HS1.out⟩
  · have HEq : Hid (editB cs = false) := Lib.hid (HNo.out (fun hh => hF hh.1))
    clear hF
    go_wp2
    go_ret
    exact ⟨(by rw [HEq.out]; rfl), HS1.out⟩
end Go.Proofs.YtjeamfoicpgkhaaGreatDoor.RefNorm
