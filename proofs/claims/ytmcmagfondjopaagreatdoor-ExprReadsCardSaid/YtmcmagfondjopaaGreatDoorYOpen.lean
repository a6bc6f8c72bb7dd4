/- A slice that was handed in, opened: the cells of its elements, and how each reads -/
import Derived.Test.YtmcmagfondjopaaGreatDoorYSlice
import Derived.Test.YtmcmagfondjopaaGreatDoorYFrame
import Derived.ChangeSlices
namespace Go.Proofs.YtmcmagfondjopaaGreatDoor.K
open Go.ChangeShapes Go.WideShapes Go.ChangeAt Go.RowKit
theorem get_flat {sz : Nat} : ∀ (css : List (List Value)), (∀ c ∈ css, c.length = sz) → ∀ i r, r < sz → css.flatten[i * sz + r]? = css[i]?.bind (·[r]?)
 | [], _, i, r, _ => by simp
 | c :: css, h, i, r, hr => by
  have hc : c.length = sz := h c (List.mem_cons_self ..)
  cases i with
  | zero => simp only [Nat.zero_mul, Nat.zero_add, List.flatten_cons, List.getElem?_cons_zero, Option.bind_some]; rw [List.getElem?_append_left (by omega)]
  | succ i =>
   rw [List.flatten_cons, List.getElem?_append_right (by rw [hc, Nat.succ_mul]; omega), show (i + 1) * sz + r - c.length = i * sz + r by rw [hc, Nat.succ_mul]; omega,
    get_flat css (fun c hc => h c (List.mem_cons_of_mem _ hc)) i r hr]
   rfl
theorem length_flat {sz : Nat} : ∀ (css : List (List Value)), (∀ c ∈ css, c.length = sz) → css.flatten.length = css.length * sz
 | [], _ => by simp
 | c :: css, h => by
  rw [List.flatten_cons, List.length_append, length_flat css (fun c hc => h c (List.mem_cons_of_mem _ hc)), h c (List.mem_cons_self ..), List.length_cons, Nat.succ_mul]; omega
theorem flat_one {α : Type} (f : α → Value) : ∀ l : List α, (l.map fun x => [f x]).flatten = l.map f
 | [] => rfl
 | x :: l => by rw [List.map_cons, List.flatten_cons, flat_one f l]; rfl
theorem add_add (b off x y : Nat) : ((⟨b, off, none⟩ : Addr).add x).add y = ⟨b, off + (x + y), none⟩ := by
 unfold Addr.add
 by_cases h1 : x = 0
 ·subst h1
  by_cases h2 : y = 0
  ·subst h2; simp
  ·simp [h2]
 ·by_cases h2 : y = 0
  ·subst h2; simp [h1]
  ·simp [h1, h2, Nat.add_assoc]
section
variable {H : Type} {enc : TypeId × Value → H} {P : Program} {w : World} {spare : Nat → Bool} {held : Bool}
theorem open_row {r : Reach} {b0 : Nat} {t e : TypeId} {v : Value} {d : DataW H} {ps : List MemPlace} (sz : Nat) (hsz : 0 < sz) (ht : P.underlying t = some (.slice e)) (hc : P.cellsOf e = sz)
  (hval : Value.okWide P w r b0 t v) (h : DataW.Trod enc P w 0 spare held t v d ps) :
  ∃ css : List (List Value), Seen w v css.length sz css.flatten ∧
   ((css = [] ∧ d = .nil) ∨ ∃ (els : List (DataW H × List MemPlace)) (rest : List (DataW H)), d = .slice (els.map (·.1)) rest ∧ els.length = css.length ∧
    ∀ (i : Nat) c y, css[i]? = some c → els[i]? = some y → c.length = sz ∧ ∃ m, DataW.trod enc P w 0 spare held m e c = some y) := by
 obtain ⟨a0, len0, cap0, rfl⟩ := okWide_slice ht hval
 obtain ⟨fuel, hf⟩ := h
 rcases DataW.trod_slice ht hf with ⟨hcs, hx⟩ | ⟨a, len, cap, elems, rest, n, _, hcs, hx, hb, hl, hm, hlen, hel, hsp, hns⟩
 ·simp [Value.cells] at hcs
  obtain ⟨rfl, rfl, rfl⟩ := hcs
  simp only [Prod.mk.injEq] at hx
  exact ⟨[], Seen.nil _ _, .inl ⟨rfl, hx.1⟩⟩
 ·simp [Value.cells] at hcs
  obtain ⟨rfl, rfl, rfl⟩ := hcs
  simp only [Prod.mk.injEq] at hx
  rw [hc] at hel
  have each : ∀ i, i < len0 → ∃ c y, w.cells? 0 (a.add (i * sz)) sz = some c ∧ elems[i]? = some y ∧ DataW.trod enc P w 0 spare held n e c = some y := by
   intro i hi
   have := hel i hi
   rw [List.getElem?_eq_getElem (by omega)] at this
   obtain ⟨c, h1, h2⟩ := Option.bind_eq_some_iff.1 this
   exact ⟨c, _, h1, List.getElem?_eq_getElem (by omega), h2⟩
  let css := (List.range len0).map fun i => (w.cells? 0 (a.add (i * sz)) sz).getD []
  have hcl : css.length = len0 := by simp [css]
  have hcg : ∀ i, i < len0 → css[i]? = w.cells? 0 (a.add (i * sz)) sz := by
   intro i hi
   obtain ⟨c, y, h1, _⟩ := each i hi
   simp [css, hi, h1]
  have hcsz : ∀ c ∈ css, c.length = sz := by
   intro c hcm
   obtain ⟨i, hi⟩ := List.getElem?_of_mem hcm
   have hil : i < len0 := by have := (List.getElem?_eq_some_iff.1 hi).1; omega
   rw [hcg i hil] at hi
   exact (World.cells?_some hi).2.1
  refine ⟨css, ⟨length_flat css hcsz, some a, cap0, by rw [hcl], by omega, hm, (fun e => by cases e), ?_⟩, .inr ⟨elems, rest.map (·.1), hx.1, by omega, ?_⟩⟩
  ·rcases Nat.eq_zero_or_pos len0 with h0 | hpos
   ·exact .inl (by omega)
   ·right
    obtain ⟨b, off, spot⟩ := a
    obtain ⟨c, y, h1, _⟩ := each 0 hpos
    have h2 := (World.cells?_some h1).2.2 0 hsz
    have h3 := (World.cells?_some h1).2.1
    rw [List.getElem?_eq_getElem (by omega)] at h2
    have hspot : spot = none := by simpa [Addr.add] using World.cell?_spot h2
    subst hspot
    refine ⟨b, off, rfl, ?_, fun j u hu => ?_⟩
    ·unfold World.cell? at h2
     simp only [Addr.add, Nat.zero_mul, if_true] at h2
     by_cases hlt : b < w.heap.size
     ·exact hlt
     ·rw [Array.getElem?_eq_none (by omega)] at h2; simp at h2
    ·have hj : j < len0 * sz := by have := (List.getElem?_eq_some_iff.1 hu).1; rw [length_flat css hcsz, hcl] at this; exact this
     have hi : j / sz < len0 := (Nat.div_lt_iff_lt_mul hsz).2 hj
     have hr : j % sz < sz := Nat.mod_lt _ hsz
     have hjj : j = j / sz * sz + j % sz := by rw [Nat.mul_comm]; exact (Nat.div_add_mod j sz).symm
     rw [hjj, get_flat css hcsz _ _ hr] at hu
     obtain ⟨c', h4, h5⟩ := Option.bind_eq_some_iff.1 hu
     rw [hcg _ hi] at h4
     have h6 := (World.cells?_some h4).2.2 _ hr
     rw [h5] at h6
     rw [add_add, ← hjj] at h6
     exact h6
  ·intro i c y h1 h2
   have hi : i < len0 := by have := (List.getElem?_eq_some_iff.1 h1).1; omega
   obtain ⟨c', y', h3, h4, h5⟩ := each i hi
   rw [hcg i hi, h3] at h1
   rw [h4] at h2
   obtain rfl := Option.some.inj h1
   obtain rfl := Option.some.inj h2
   exact ⟨(World.cells?_some h3).2.1, n, h5⟩
theorem open_nums {r : Reach} {b0 : Nat} {t e : TypeId} {k : IntKind} {v : Value} {d : DataW H} {ps : List MemPlace} (ht : P.underlying t = some (.slice e)) (he : P.underlying e = some (.int k)) (hc : P.cellsOf e = 1)
  (hval : Value.okWide P w r b0 t v) (h : DataW.Trod enc P w 0 spare held t v d ps) :
  ∃ l : List Int, (∀ x ∈ l, (Lit.int k x).wf = true) ∧ Seen w v l.length 1 (l.map (Value.int k)) ∧ (l = [] ∨ ∃ es rest : List (DataW H), d = .slice es rest ∧ es.length = l.length) := by
 obtain ⟨css, hs, hd⟩ := open_row 1 (by decide) ht hc hval h
 have hd' : css.length = 0 ∨ ∃ es rest : List (DataW H), d = .slice es rest ∧ es.length = css.length := by
  rcases hd with ⟨rfl, _⟩ | ⟨els, rest, h1, h2, _⟩
  ·exact .inl rfl
  ·exact .inr ⟨_, rest, h1, by simpa using h2⟩
 clear hval
 have : ∃ l : List Int, (∀ x ∈ l, (Lit.int k x).wf = true) ∧ css = l.map fun x => [Value.int k x] := by
  rcases hd with ⟨rfl, _⟩ | ⟨els, rest, _, hl, hel⟩
  ·exact ⟨[], by simp, rfl⟩
  ·have each : ∀ c ∈ css, ∃ x, c = [Value.int k x] ∧ (Lit.int k x).wf = true := by
    intro c hcm
    obtain ⟨i, hi⟩ := List.getElem?_of_mem hcm
    have hil := (List.getElem?_eq_some_iff.1 hi).1
    obtain ⟨_, m, hm⟩ := hel i c _ hi (List.getElem?_eq_getElem (by omega))
    obtain ⟨x, rfl, _, hw⟩ := DataW.trod_int he hm
    exact ⟨x, rfl, hw⟩
   clear hs hel hl hd'
   induction css with
   | nil => exact ⟨[], by simp, rfl⟩
   | cons c css ih =>
    obtain ⟨x, rfl, hx⟩ := each c (List.mem_cons_self ..)
    obtain ⟨l, h1, rfl⟩ := ih fun c hc => each c (List.mem_cons_of_mem _ hc)
    exact ⟨x :: l, by simpa using ⟨hx, h1⟩, rfl⟩
 obtain ⟨l, h1, rfl⟩ := this
 refine ⟨l, h1, ?_⟩
 have hf := flat_one (Value.int k) l
 rw [hf, List.length_map] at hs
 rw [List.length_map] at hd'
 exact ⟨hs, hd'.imp List.eq_nil_of_length_eq_zero id⟩
theorem sized_nums {P : Program} {ts : List TypeId} {ds : List (DataW H)} {l : List Int} {d : DataW H} (hd : l = [] ∨ ∃ es rest : List (DataW H), d = .slice es rest ∧ es.length = l.length)
  (hsz : (DataW.weightsEach P ts ds).all (· ≤ reachBytes) = true) {j : Nat} {t e : TypeId} (h1 : ts[j]? = some t) (h2 : ds[j]? = some d) (hu : P.underlying t = some (.slice e)) :
  l.length * P.bytesOf e ≤ 140737488351232 := by
 rcases hd with rfl | ⟨es, rest, rfl, he⟩
 ·simp
 ·have := sized_slice hsz h1 h2 hu
  rw [← he]
  have h3 : es.length * P.bytesOf e ≤ (es.length + rest.length) * P.bytesOf e := Nat.mul_le_mul_right _ (by omega)
  have h4 : reachBytes = 140737488351232 := rfl
  omega
end
end Go.Proofs.YtmcmagfondjopaaGreatDoor.K
