/- A slice that may be nil, appended to a row of one's own. Nothing of the program stands here. -/
import Derived.Test.YtjeamfoicpgkhaaDoorRead
import Derived.Laws.AppendOwnNone
namespace Go.Proofs.YtjeamfoicpgkhaaDoor.AppSl
open Go.RowKit Go.Proofs.YtjeamfoicpgkhaaDoor.Mem Go.Proofs.YtjeamfoicpgkhaaDoor.Read
set_option linter.unusedVariables false
set_option linter.unusedSimpArgs false
theorem run_append_none_c {P : Program} {w : World} (base : Nat) (t ty e : TypeId) (i : TypeInfo) (size c : Nat) (ht : P.underlying t = some (.slice e)) (hi : P.info? e = some i)
    (v : Value) (n : Nat) (xs : List Value) (hown : w.ownsRow base e size v n xs) : (Builtin.append_ #[t, t] ty #[v, .slice none 0 c]).run P w = .ok v w := by
  rcases hown.2 with ⟨rfl, rfl⟩ | ⟨g, cap, cur, rfl, _, _, hnc, _⟩
  · simp [Builtin.append_, run_underlying ht, sizeOf, typeInfo, hi, Builtin.lenOf, Builtin.firstCells]
  · simp [Builtin.append_, run_underlying ht, sizeOf, typeInfo, hi, Builtin.lenOf, Builtin.firstCells, hnc, storeCells]
/-- append(s, x...) where x may be nil. -/
theorem list_append_sl {P : Program} {ops : Array Oper} {rest : List Oper} {o : Oper} {a : Act} {Q : Exit → Act → World → Prop} (W : World) (hgd : o.guard = none) (s x : Operand) (t e : TypeId) (z : Value) (size bytes : Nat)
    (ho : o.op = .call { callee := .builtin .append, args := #[s, x], argTypes := #[t, t] })
    (ht : P.underlying t = some (.slice e)) (hinfo : (P.info? e).map (fun i => (i.zero, i.size, i.bytes)) = some (some z, size, bytes)) (hz : z.cells.size = size) (hs0 : 0 < size)
    (v : Value) (n : Nat) (xs : List Value) (hs : a.eval s = v) (HO : W.ownsRow 0 e size v n xs)
    (A : Option Addr) (m c : Nat) (news : List Value) (hx : a.eval x = .slice A m c) (hA : A = none → m = 0) (hl : news.length = m * size) (hnews : ∀ ad, A = some ad → ∀ j u, news[j]? = some u → W.cell? (ad.add j) = some u) (h1 : ∀ u ∈ news, u.oneCell' = true)
    (hm : n + m ≤ maxLen) (hb : (n + m) * bytes ≤ 140737488355328)
    (h : ∀ v1 w1, w1.ownsRow 0 e size v1 (n + m) (xs ++ news) → W.grownBy w1 v.ownBlock → (v1.ownBlock = v.ownBlock ∨ v1.ownBlock = some W.heap.size) → wpList P ops Q rest (a.put o.dst v1) w1) :
    wpList P ops Q (o :: rest) a W := by
  cases A with
  | some ad => exact list_append_own W hgd s x t e z size bytes ho ht hinfo hz hs0 v n xs hs HO ad m c news hx hl (hnews ad rfl) h1 hm hb h
  | none =>
    obtain rfl : m = 0 := hA rfl
    obtain rfl : news = [] := List.eq_nil_of_length_eq_zero (by rw [hl]; simp)
    obtain ⟨i0, hi, hzz⟩ := Option.map_eq_some_iff.1 hinfo
    refine wpList_plain hgd fun K hK => ?_
    have hrun := run_append_none_c (P := P) (w := W) 0 t o.type e i0 size c ht hi v n xs HO
    unfold Oper.wp
    simp [execOp, ho, resolve, invoke, builtin, hs, hx, hrun, Result.andThen]
    exact hK _ _ (h v W (by simpa using HO) ⟨rfl, rfl, rfl, Nat.le_refl _, fun _ _ _ => rfl⟩ (.inl rfl))
/-- What a slice that reads as xs has in its cells, one behind the other. -/
theorem sl_news {α : Type} {sz : Nat} (hz : 0 < sz) {R : World → α → List Value → Prop} {enc : α → List Value} (hR : ∀ w a cs, R w a cs → cs = enc a) {w : World} {xs : List α} {A : Option Addr} {n c : Nat} (h : SlR sz R w xs (.slice A n c)) :
    (A = none → xs.length = 0) ∧ (xs.flatMap enc).length = xs.length * sz ∧ ∀ ad, A = some ad → ∀ j u, (xs.flatMap enc)[j]? = some u → w.cell? (ad.add j) = some u := by
  obtain ⟨A', c', he, -, -, h3⟩ := h
  injection he with he1 _ _
  subst he1
  have hlen : ∀ a ∈ xs, (enc a).length = sz := by
    intro a ha
    obtain ⟨j, hj, rfl⟩ := List.getElem_of_mem ha
    obtain ⟨ad, cs, -, hl, hr, -⟩ := h3 j hj
    rw [← hR _ _ _ hr, hl]
  have hl : ∀ ys : List α, (∀ a ∈ ys, (enc a).length = sz) → (ys.flatMap enc).length = ys.length * sz := by
    intro ys
    induction ys with
    | nil => intro _; simp
    | cons y ys ih => intro h; rw [List.flatMap_cons, List.length_append, h y (by simp), ih (fun a ha => h a (by simp [ha])), List.length_cons, Nat.add_mul]; omega
  refine ⟨fun hA => ?_, hl xs hlen, fun ad hA j u hu => ?_⟩
  · rcases Nat.eq_zero_or_pos xs.length with h0 | h0
    · exact h0
    · obtain ⟨ad, cs, e, -⟩ := h3 0 h0
      rw [hA] at e
      cases e
  · have hj : j < xs.length * sz := by rw [← hl xs hlen]; exact (List.getElem?_eq_some_iff.1 hu).1
    have hk : j / sz < xs.length := Nat.div_lt_of_lt_mul (by rw [Nat.mul_comm]; exact hj)
    obtain ⟨ad', cs, e, hcl, hr, hc⟩ := h3 (j / sz) hk
    rw [hA] at e
    injection e with e
    subst e
    have hi : j % sz < sz := Nat.mod_lt _ hz
    have key : ∀ (ys : List α) (k i : Nat) (hk : k < ys.length), (∀ a ∈ ys, (enc a).length = sz) → i < sz → (ys.flatMap enc)[k * sz + i]? = (enc ys[k])[i]? := by
      intro ys
      induction ys with
      | nil => intro k i hk; simp at hk
      | cons y ys ih =>
        intro k i hk hys hi
        rw [List.flatMap_cons]
        cases k with
        | zero => rw [List.getElem?_append_left (by rw [hys y (by simp)]; omega)]; simp
        | succ k =>
          rw [List.getElem?_append_right (by rw [hys y (by simp), Nat.add_mul]; omega), hys y (by simp), show (k + 1) * sz + i - sz = k * sz + i by rw [Nat.add_mul]; omega]
          exact ih k i (by simpa using hk) (fun a ha => hys a (by simp [ha])) hi
    have hd : j / sz * sz + j % sz = j := Nat.div_add_mod' j sz
    have := key xs (j / sz) (j % sz) hk hlen hi
    rw [hd, hu, ← hR _ _ _ hr] at this
    have := hc (j % sz) u this.symm
    rwa [hd] at this
end Go.Proofs.YtjeamfoicpgkhaaDoor.AppSl
