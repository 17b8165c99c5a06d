/- A layer for walks, fifteenth text: parts of slices as lists, append of zeros, several resources as one. No statement of the seat is proved in this text. -/
import Derived.Test.YtahahmelnaphjaaDoorK14
import Derived.Lib.AppendZeros
namespace Go.K
open Go Go.RowKit

section
variable {α : Type} {k : Nat} {enc : α → List Value} {a : Option Addr} {l : List α} {w : World}
theorem elems_drop {cap lo : Nat} (h : Has w (Elems a k enc l)) (hc : l.length ≤ cap) (h1 : lo ≤ l.length) : Has w (Elems (subA a k lo cap) k enc (l.drop lo)) := by
  have := elems_sub h lo (l.length - lo) cap (by omega) (by omega)
  rwa [List.take_of_length_le (by simp)] at this
theorem elems_take {m hi : Nat} (h : Has w (Elems a k enc l)) (h1 : hi ≤ l.length) (h2 : hi ≤ m) : Has w (Elems (subA a k 0 m) k enc (l.take hi)) := by
  have := elems_sub h 0 hi m (by omega) (by omega)
  rwa [List.drop_zero] at this
theorem has_nil : Has w (Elems a k enc []) := ⟨fun _ => False, fun _ h => h.elim, .inl rfl⟩
theorem row_cap {cap : Nat} {e : TypeId} (h : Has w (Row a k cap e enc l)) : l.length ≤ cap := by
  obtain ⟨B, _, hA⟩ := h
  exact Row.bounds hA
theorem row_clear {cap : Nat} {e : TypeId} : ∀ (B : Nat → Prop) (w : World), (Row a k cap e enc l).A B w → (Row a k cap e enc []).A B w := by
  rintro B w (⟨rfl, rfl, rfl⟩ | ⟨b, off, cs, ha, hB, hb, h1, h2, h3⟩)
  · exact .inl ⟨rfl, rfl, rfl⟩
  · exact .inr ⟨b, off, cs, ha, hB, hb, by simp, h2, by simp⟩
theorem subA_zero {b m : Nat} : subA (some ⟨b, 0, none⟩) k 0 m = some ⟨b, 0, none⟩ := by
  unfold subA
  split
  · rfl
  · simp [addr_add]
end

section
variable {c : Cx} {ds : List Deferred} {p : Post} {T : List (Nat × Value)} {H : List Res} {ops : Array Oper} {rest : List Oper} {d : Option Nat} {ty : TypeId} {ps : String} {af : Array Edge} {g : Option (Nat × Bool)} {x y z : Operand} {u v : Value}
variable {α : Type} {k : Nat} {enc : α → List Value}
section
variable {t e : TypeId} {cap : Nat} {a : Option Addr} {l : List α} {kl kh km : IntKind} {lo hi mx : Int} {xl xh xm : Operand}
theorem y_sliceLoL (ht : SE c.P t e k) (hx : evo T x = some (.slice a l.length cap)) (hl : evo T xl = some (.int kl lo)) (h0 : 0 ≤ lo) (h1 : lo ≤ (l.length : Int)) :
    Y c ds H T ⟨d, .slice t x (some xl) none none, ty, ps, af, g⟩ (.slice (subA a k lo.toNat cap) (l.drop lo.toNat).length (cap - lo.toNat)) := by
  rw [List.length_drop]; exact y_sliceLo ht hx hl h0 h1
theorem y_sliceHiL (ht : SE c.P t e k) (hx : evo T x = some (.slice a l.length cap)) (hh : evo T xh = some (.int kh hi)) (h0 : 0 ≤ hi) (h1 : hi ≤ (l.length : Int)) (h2 : l.length ≤ cap) :
    Y c ds H T ⟨d, .slice t x none (some xh) none, ty, ps, af, g⟩ (.slice (subA a k 0 cap) (l.take hi.toNat).length cap) := by
  rw [List.length_take, Nat.min_eq_left (by omega)]; exact y_sliceHi ht hx hh h0 (by omega)
theorem y_slice3L (ht : SE c.P t e k) (hx : evo T x = some (.slice a l.length cap)) (hh : evo T xh = some (.int kh hi)) (hm : evo T xm = some (.int km mx)) (h0 : 0 ≤ hi) (h1 : hi ≤ (l.length : Int)) (h2 : hi ≤ mx) (h3 : mx ≤ (cap : Int)) :
    Y c ds H T ⟨d, .slice t x none (some xh) (some xm), ty, ps, af, g⟩ (.slice (subA a k 0 mx.toNat) (l.take hi.toNat).length mx.toNat) := by
  rw [List.length_take, Nat.min_eq_left (by omega)]; exact y_slice3 ht hx hh hm h0 h2 h3
end

/-- append(nil, make([]T, n)...) -/
theorem yx_appendZeros {t tn e : TypeId} {by_ : Nat} {zs : List Value} {kn ki : IntKind} {n : Int} (enc : α → List Value) (hf : AF c.P t e k by_ zs) (hk : 0 < k) (htn : c.P.underlying tn = some (.int kn)) (hx : evo T x = some (.slice none 0 0)) (hy : evo T y = some (.int ki n))
    (h0 : 0 < n) (h1 : n ≤ 9223372036854775807) (hb : n.toNat * by_ ≤ 281474976710656) :
    YX c ds H T ⟨d, .call ⟨.builtin .append, #[x, y], #[t, tn]⟩, ty, ps, af, g⟩ (fun z : Nat × Nat => .slice (some ⟨z.1, 0, none⟩) n.toNat z.2) (fun z => Row (some ⟨z.1, 0, none⟩) k z.2 e enc ([] : List α)) := by
  refine ⟨fun A w hs hw => ?_⟩
  have hi := hf.i
  cases hu : c.P.info? e with
  | none => rw [hu] at hi; cases hi
  | some i =>
  rw [hu] at hi
  simp only [Option.map_some, Option.some.injEq, Prod.mk.injEq] at hi
  obtain ⟨hsz, hby, hz⟩ := hi
  cases hz0 : i.zero with
  | none => rw [hz0] at hz; cases hz
  | some zz =>
  have hzl : zz.cells.size = i.size := by
    rw [hz0] at hz
    simp only [Option.map_some, Option.some.injEq] at hz
    rw [hsz, ← hf.zl, ← hz]; simp
  have hr := Lib.run_append_nil_zeros (P := c.P) w t tn ty e i zz ki kn hf.u htn hu hz0 n.toNat (by omega) (by omega) (by omega) (by rw [hby]; exact hb)
  rw [show ((n.toNat : Nat) : Int) = n from by omega] at hr
  unfold Yld
  rw [run_builtin (as := [x, y]) (vs := [.slice none 0 0, .int ki n]) (by simp [evs, hx, hy]) hs w]
  simp only [builtin]
  rw [run_val hr]
  refine ⟨(w.heap.size, grownCap w n.toNat 0 e), rfl, ⟨rfl, rfl, rfl, by simp, fun j hj => heap_alloc_old w.drew _ hj⟩, (· = w.heap.size), fun j hj => by subst hj; simp, .inr ⟨w.heap.size, 0, (Builtin.zeroCells zz.cells n.toNat ++ Builtin.zeroCells zz.cells (grownCap w n.toNat 0 e - n.toNat)).toList, rfl, fun _ => Iff.rfl, ?_, by simp, ?_, by simp⟩⟩
  · refine (World.alloc_heap_new w.drew _).trans ?_
    congr 2
  · have := grownCap_ge w n.toNat 0 e
    simp only [Array.length_toList, Array.size_append, size_zeroCells, hzl, Nat.zero_add, ← Nat.add_mul]
    rw [hsz]
    exact Nat.mul_le_mul_right _ (by omega)

theorem yx_callV {X : Type} {V : X → Value} {A : X → Res} {t : Nat} {f : FuncId} (he : En c.P f) {fs cap : List Value} (hf : evo T (.tmp t) = some (.func (.func f) fs.toArray cap.toArray)) {as : List Operand} {tys : Array TypeId} {vs : List Value} (ha : evs T as = some vs)
    (hc : ∀ w, Hp c.U c.w0 H w → Calls c.P f (fs ++ vs ++ cap).toArray w (fun e w' => ∃ x, e = .returned (V x) ∧ Ext w w' ∧ New w w' (A x))) : YX c ds H T ⟨d, .call ⟨.value (.tmp t), as.toArray, tys⟩, ty, ps, af, g⟩ V A := by
  refine ⟨fun a w hs hw => ?_⟩
  unfold Yld
  rw [run_callV he hf ha hs w]
  have := hc w hw
  rw [show (fs ++ vs ++ cap).toArray = fs.toArray ++ vs.toArray ++ cap.toArray from by simp] at this
  exact this.mono fun e w' ⟨x, he, hx, hn⟩ => ⟨V x, he, x, rfl, hx, hn⟩
theorem y_negI {n : Int} {t : TypeId} (hx : evo T x = some (.int .i64 n)) (h1 : -9223372036854775808 ≤ -n) (h2 : -n ≤ 9223372036854775807) : Y c ds H T ⟨d, .unOp .neg t x, ty, ps, af, g⟩ (.int .i64 (-n)) := by
  have := y_neg (c := c) (ds := ds) (H := H) (d := d) (ty := ty) (ps := ps) (af := af) (g := g) (t := t) hx
  rwa [wrap64_in h1 h2] at this

/-- an element of a slice whose length is known otherwise -/
theorem y_indexN {t e : TypeId} {cap n : Nat} {a0 : Option Addr} {kd : IntKind} {i : Int} {l : List α} (ht : SE c.P t e k) (hx : evo T x = some (.slice a0 n cap)) (hy : evo T y = some (.int kd i))
    (hh : ∀ w, Hp c.U c.w0 H w → Has w (Elems a0 k enc l)) (hn : l.length = n) (h0 : 0 ≤ i) (h1 : i < (l.length : Int)) : Y c ds H T ⟨d, .indexAddr t x y, ty, ps, af, g⟩ (epx a0 (i.toNat * k)) := by
  subst hn; exact y_indexE ht hx hy hh h0 h1

/-- the first n resources as one -/
theorem gk_pack {K : Act → World → Prop} (n : Nat) (h : GK c ds K T (SepR (H.take n) :: H.drop n)) : GK c ds K T H := fun a w ha hw =>
  h a w ha (Hp.pack (by rwa [List.take_append_drop]))
theorem gk_split {K : Act → World → Prop} {L : List Res} (h : GK c ds K T (L ++ H)) : GK c ds K T (SepR L :: H) := fun a w ha hw =>
  h a w ha hw.split
/-- a list of resources in another order -/
theorem gk_toFront {K : Act → World → Prop} {R : Res} (i : Nat) (hR : H[i]? = some R) (h : GK c ds K T (R :: H.eraseIdx i)) : GK c ds K T H := gk_front i hR h
end
end Go.K
