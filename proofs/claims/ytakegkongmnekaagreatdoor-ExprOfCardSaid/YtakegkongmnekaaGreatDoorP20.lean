/- Part of the proof: see the last text. -/
import Derived.Test.YtakegkongmnekaaGreatDoorP19
set_option maxRecDepth 20000
set_option linter.unusedVariables false
set_option linter.unusedSimpArgs false
namespace Vm
open Go Go.RowKit
theorem res_bool (s : Nat → Ent) (b : Bool) : res s (V.bool b) = (V.bool b) := rfl
theorem n0_bool (b : Bool) : norm0 (V.bool b) = (V.bool b) := rfl
theorem n1_bool (b : Bool) : zbc (V.bool b) = (V.bool b) := rfl
theorem zpy (b : Bool) : V.cells (V.bool b) = [(V.bool b)] := rfl
theorem sz_bool (b : Bool) : V.size (V.bool b) = 1 := rfl
theorem ia_bool (b : Bool) : V.isAgg (V.bool b) = false := rfl
theorem on1_bool (b : Bool) : V.one (V.bool b) = true := rfl
theorem zn6 (b : Bool) : V.storable (V.bool b) = true := rfl
theorem zpp (b : Bool) : V.data (V.bool b) = true := rfl
theorem si_bool (b : Bool) : V.simple (V.bool b) = true := rfl
theorem res_int (s : Nat → Ent) (k : IntKind) (n : Int) : res s (V.int k n) = (V.int k n) := rfl
theorem n0_int (k : IntKind) (n : Int) : norm0 (V.int k n) = (V.int k n) := rfl
theorem n1_int (k : IntKind) (n : Int) : zbc (V.int k n) = (V.int k n) := rfl
theorem ce_int (k : IntKind) (n : Int) : V.cells (V.int k n) = [(V.int k n)] := rfl
theorem sz_int (k : IntKind) (n : Int) : V.size (V.int k n) = 1 := rfl
theorem ia_int (k : IntKind) (n : Int) : V.isAgg (V.int k n) = false := rfl
theorem on1_int (k : IntKind) (n : Int) : V.one (V.int k n) = true := rfl
theorem st_int (k : IntKind) (n : Int) : V.storable (V.int k n) = true := rfl
theorem da_int (k : IntKind) (n : Int) : V.data (V.int k n) = true := rfl
theorem si_int (k : IntKind) (n : Int) : V.simple (V.int k n) = true := rfl
theorem res_str (st : Nat → Ent) (s : List UInt8) : res st (V.str s) = (V.str s) := rfl
theorem n0_str (s : List UInt8) : norm0 (V.str s) = (V.str s) := rfl
theorem n1_str (s : List UInt8) : zbc (V.str s) = (V.str s) := rfl
theorem ce_str (s : List UInt8) : V.cells (V.str s) = [(V.str s)] := rfl
theorem sz_str (s : List UInt8) : V.size (V.str s) = 1 := rfl
theorem ia_str (s : List UInt8) : V.isAgg (V.str s) = false := rfl
theorem on1_str (s : List UInt8) : V.one (V.str s) = true := rfl
theorem st_str (s : List UInt8) : V.storable (V.str s) = true := rfl
theorem da_str (s : List UInt8) : V.data (V.str s) = true := rfl
theorem si_str (s : List UInt8) : V.simple (V.str s) = true := rfl
theorem res_list (s : Nat → Ent) (l : List V) : res s (V.list l) = (V.list l) := rfl
theorem n0_list (l : List V) : norm0 (V.list l) = (V.list l) := rfl
theorem n1_list (l : List V) : zbc (V.list l) = (V.list l) := rfl
theorem ce_list (l : List V) : V.cells (V.list l) = [(V.list l)] := rfl
theorem sz_list (l : List V) : V.size (V.list l) = 1 := rfl
theorem zpc (l : List V) : V.isAgg (V.list l) = false := rfl
theorem zmk (l : List V) : V.one (V.list l) = true := rfl
theorem st_list (l : List V) : V.storable (V.list l) = true := rfl
theorem da_list (l : List V) : V.data (V.list l) = true := rfl
theorem si_list (l : List V) : V.simple (V.list l) = true := rfl
theorem res_ip (s : Nat → Ent) (v : V) (o : Nat) : res s (V.ip v o) = (V.ip v o) := rfl
theorem n0_ip (v : V) (o : Nat) : norm0 (V.ip v o) = (V.ip v o) := rfl
theorem n1_ip (v : V) (o : Nat) : zbc (V.ip v o) = (V.ip v o) := rfl
theorem ce_ip (v : V) (o : Nat) : V.cells (V.ip v o) = [(V.ip v o)] := rfl
theorem sz_ip (v : V) (o : Nat) : V.size (V.ip v o) = 1 := rfl
theorem ia_ip (v : V) (o : Nat) : V.isAgg (V.ip v o) = false := rfl
theorem on1_ip (v : V) (o : Nat) : V.one (V.ip v o) = true := rfl
theorem st_ip (v : V) (o : Nat) : V.storable (V.ip v o) = true := rfl
theorem da_ip (v : V) (o : Nat) : V.data (V.ip v o) = true := rfl
theorem si_ip (v : V) (o : Nat) : V.simple (V.ip v o) = true := rfl
theorem res_ptr (s : Nat → Ent) (i o : Nat) : res s (V.ptr i o) = (V.ptr i o) := rfl
theorem n0_ptr (i o : Nat) : norm0 (V.ptr i o) = (V.ptr i o) := rfl
theorem n1_ptr (i o : Nat) : zbc (V.ptr i o) = (V.ptr i o) := rfl
theorem ce_ptr (i o : Nat) : V.cells (V.ptr i o) = [(V.ptr i o)] := rfl
theorem sz_ptr (i o : Nat) : V.size (V.ptr i o) = 1 := rfl
theorem ia_ptr (i o : Nat) : V.isAgg (V.ptr i o) = false := rfl
theorem on1_ptr (i o : Nat) : V.one (V.ptr i o) = true := rfl
theorem st_ptr (i o : Nat) : V.storable (V.ptr i o) = true := rfl
theorem da_ptr (i o : Nat) : V.data (V.ptr i o) = false := rfl
theorem si_ptr (i o : Nat) : V.simple (V.ptr i o) = true := rfl
theorem res_row (s : Nat → Ent) (i n : Nat) : res s (V.row i n) = match s i with | .row _ _ xs => if n ≤ xs.length then .list (xs.take n) else .any | _ => .any := rfl
theorem n0_row (i n : Nat) : norm0 (V.row i n) = (V.row i n) := rfl
theorem n1_row (i n : Nat) : zbc (V.row i n) = (V.row i n) := rfl
theorem ce_row (i n : Nat) : V.cells (V.row i n) = [(V.row i n)] := rfl
theorem sz_row (i n : Nat) : V.size (V.row i n) = 1 := rfl
theorem ia_row (i n : Nat) : V.isAgg (V.row i n) = false := rfl
theorem on1_row (i n : Nat) : V.one (V.row i n) = true := rfl
theorem st_row (i n : Nat) : V.storable (V.row i n) = true := rfl
theorem da_row (i n : Nat) : V.data (V.row i n) = false := rfl
theorem si_row (i n : Nat) : V.simple (V.row i n) = false := rfl
theorem res_nilp (s : Nat → Ent)  : res s V.nilp = V.nilp := rfl
theorem n0_nilp  : norm0 V.nilp = V.nilp := rfl
theorem n1_nilp  : zbc V.nilp = V.nilp := rfl
theorem ce_nilp  : V.cells V.nilp = [V.nilp] := rfl
theorem znZ  : V.size V.nilp = 1 := rfl
theorem ia_nilp  : V.isAgg V.nilp = false := rfl
theorem on1_nilp  : V.one V.nilp = true := rfl
theorem st_nilp  : V.storable V.nilp = true := rfl
theorem zpo  : V.data V.nilp = true := rfl
theorem si_nilp  : V.simple V.nilp = true := rfl
theorem res_fn (s : Nat → Ent) (f : FuncId) (a b : List V) : res s (V.fn f a b) = (V.fn f a b) := rfl
theorem n0_fn (f : FuncId) (a b : List V) : norm0 (V.fn f a b) = (V.fn f a b) := rfl
theorem n1_fn (f : FuncId) (a b : List V) : zbc (V.fn f a b) = (V.fn f a b) := rfl
theorem ce_fn (f : FuncId) (a b : List V) : V.cells (V.fn f a b) = [(V.fn f a b)] := rfl
theorem sz_fn (f : FuncId) (a b : List V) : V.size (V.fn f a b) = 1 := rfl
theorem ia_fn (f : FuncId) (a b : List V) : V.isAgg (V.fn f a b) = false := rfl
theorem on1_fn (f : FuncId) (a b : List V) : V.one (V.fn f a b) = true := rfl
theorem st_fn (f : FuncId) (a b : List V) : V.storable (V.fn f a b) = true := rfl
theorem da_fn (f : FuncId) (a b : List V) : V.data (V.fn f a b) = false := rfl
theorem si_fn (f : FuncId) (a b : List V) : V.simple (V.fn f a b) = false := rfl
theorem res_nils (s : Nat → Ent)  : res s V.nils = V.nils := rfl
theorem n0_nils  : norm0 V.nils = .list [] := rfl
theorem n1_nils  : zbc V.nils = .list [] := rfl
theorem ce_nils  : V.cells V.nils = [V.nils] := rfl
theorem sz_nils  : V.size V.nils = 1 := rfl
theorem zpb  : V.isAgg V.nils = false := rfl
theorem on1_nils  : V.one V.nils = true := rfl
theorem st_nils  : V.storable V.nils = true := rfl
theorem da_nils  : V.data V.nils = true := rfl
theorem zn9  : V.simple V.nils = true := rfl
theorem zdp (s : Nat → Ent)  : res s V.niface = V.niface := rfl
theorem n0_niface  : norm0 V.niface = V.niface := rfl
theorem n1_niface  : zbc V.niface = V.niface := rfl
theorem ce_niface  : V.cells V.niface = [V.niface] := rfl
theorem sz_niface  : V.size V.niface = 1 := rfl
theorem ia_niface  : V.isAgg V.niface = false := rfl
theorem on1_niface  : V.one V.niface = true := rfl
theorem st_niface  : V.storable V.niface = true := rfl
theorem da_niface  : V.data V.niface = true := rfl
theorem zj5  : V.simple V.niface = true := rfl
theorem zd4 (s : Nat → Ent) (t : TypeId) (v : V) : res s (V.iface t v) = (V.iface t v) := rfl
theorem n0_iface (t : TypeId) (v : V) : norm0 (V.iface t v) = (V.iface t v) := rfl
theorem n1_iface (t : TypeId) (v : V) : zbc (V.iface t v) = (V.iface t v) := rfl
theorem zmM (t : TypeId) (v : V) : V.cells (V.iface t v) = [(V.iface t v)] := rfl
theorem sz_iface (t : TypeId) (v : V) : V.size (V.iface t v) = 1 := rfl
theorem ia_iface (t : TypeId) (v : V) : V.isAgg (V.iface t v) = false := rfl
theorem on1_iface (t : TypeId) (v : V) : V.one (V.iface t v) = true := rfl
theorem st_iface (t : TypeId) (v : V) : V.storable (V.iface t v) = true := rfl
theorem da_iface (t : TypeId) (v : V) : V.data (V.iface t v) = true := rfl
theorem si_iface (t : TypeId) (v : V) : V.simple (V.iface t v) = true := rfl
theorem zhw (s : Nat → Ent) (l : List V) : res s (V.agg l) = (V.agg l) := rfl
theorem n0_agg (l : List V) : norm0 (V.agg l) = (V.agg l) := rfl
theorem n1_agg (l : List V) : zbc (V.agg l) = .agg (l.map norm0) := rfl
theorem ce_agg (l : List V) : V.cells (V.agg l) = l := rfl
theorem sz_agg (l : List V) : V.size (V.agg l) = l.length := rfl
theorem ia_agg (l : List V) : V.isAgg (V.agg l) = true := rfl
theorem on1_agg (l : List V) : V.one (V.agg l) = false := rfl
theorem st_agg (l : List V) : V.storable (V.agg l) = l.all V.one := rfl
theorem da_agg (l : List V) : V.data (V.agg l) = true := rfl
theorem si_agg (l : List V) : V.simple (V.agg l) = true := rfl
theorem res_tup (s : Nat → Ent) (l : List V) : res s (V.tup l) = (V.tup l) := rfl
theorem n0_tup (l : List V) : norm0 (V.tup l) = (V.tup l) := rfl
theorem n1_tup (l : List V) : zbc (V.tup l) = (V.tup l) := rfl
theorem ce_tup (l : List V) : V.cells (V.tup l) = [(V.tup l)] := rfl
theorem sz_tup (l : List V) : V.size (V.tup l) = 1 := rfl
theorem ia_tup (l : List V) : V.isAgg (V.tup l) = false := rfl
theorem zoK (l : List V) : V.one (V.tup l) = false := rfl
theorem st_tup (l : List V) : V.storable (V.tup l) = false := rfl
theorem da_tup (l : List V) : V.data (V.tup l) = true := rfl
theorem si_tup (l : List V) : V.simple (V.tup l) = true := rfl
theorem zd3 (s : Nat → Ent)  : res s V.undef = V.undef := rfl
theorem n0_undef  : norm0 V.undef = V.undef := rfl
theorem n1_undef  : zbc V.undef = V.undef := rfl
theorem ce_undef  : V.cells V.undef = [V.undef] := rfl
theorem sz_undef  : V.size V.undef = 1 := rfl
theorem ia_undef  : V.isAgg V.undef = false := rfl
theorem zkt  : V.one V.undef = false := rfl
theorem zlW  : V.storable V.undef = false := rfl
theorem da_undef  : V.data V.undef = true := rfl
theorem si_undef  : V.simple V.undef = true := rfl
theorem res_any (s : Nat → Ent)  : res s V.any = V.any := rfl
theorem n0_any  : norm0 V.any = V.any := rfl
theorem n1_any  : zbc V.any = V.any := rfl
theorem ce_any  : V.cells V.any = [V.any] := rfl
theorem sz_any  : V.size V.any = 1 := rfl
theorem ia_any  : V.isAgg V.any = false := rfl
theorem on1_any  : V.one V.any = false := rfl
theorem st_any  : V.storable V.any = false := rfl
theorem da_any  : V.data V.any = false := rfl
theorem si_any  : V.simple V.any = false := rfl
theorem zpa : Ent.isGone .gone = true := rfl
theorem ig_blk (T : TypeId) (l : List V) : Ent.isGone (.blk T l) = false := rfl
theorem ig_row (T : TypeId) (z : Nat) (l : List V) : Ent.isGone (.row T z l) = false := rfl
theorem argV_eq (s : Nat → Ent) (v : V) : argV s v = zbc (res s v) := rfl
theorem zaj (x : X) (d : Nat) (v : V) (U : Upds) (i : Nat) : (x.put (some d) v U).env i = if i = d then v else x.env i := rfl
theorem zak (x : X) (v : V) (U : Upds) (i : Nat) : (x.put none v U).env i = x.env i := rfl
theorem zar (x : X) (d : Option Nat) (v : V) (i : Nat) : (x.put d v []).st i = x.st i := rfl
theorem zaq (x : X) (d : Option Nat) (v : V) (i j : Nat) (e : Ent) : (x.put d v [(j, e)]).st i = if i = j then e else x.st i := rfl
theorem zap (x : X) (d : Option Nat) (v : V) (i j k : Nat) (e f : Ent) : (x.put d v [(j, e), (k, f)]).st i = if i = k then f else if i = j then e else x.st i := rfl
theorem vb : type_of% (And.intro (And.intro (And.intro (And.intro (And.intro (And.intro (And.intro @wrap_i64 @res_bool) (And.intro @n0_bool (And.intro @n1_bool @zpy))) (And.intro (And.intro @sz_bool @ia_bool) (And.intro @on1_bool (And.intro @zn6 @zpp)))) (And.intro (And.intro (And.intro @si_bool @res_int) (And.intro @n0_int (And.intro @n1_int @ce_int))) (And.intro (And.intro @sz_int @ia_int) (And.intro @on1_int (And.intro @st_int @da_int))))) (And.intro (And.intro (And.intro (And.intro @si_int @res_str) (And.intro @n0_str (And.intro @n1_str @ce_str))) (And.intro (And.intro @sz_str @ia_str) (And.intro @on1_str (And.intro @st_str @da_str)))) (And.intro (And.intro (And.intro @si_str @res_list) (And.intro @n0_list (And.intro @n1_list @ce_list))) (And.intro (And.intro @sz_list (And.intro @zpc @zmk)) (And.intro @st_list (And.intro @da_list @si_list)))))) (And.intro (And.intro (And.intro (And.intro (And.intro @res_ip @n0_ip) (And.intro @n1_ip (And.intro @ce_ip @sz_ip))) (And.intro (And.intro @ia_ip @on1_ip) (And.intro @st_ip (And.intro @da_ip @si_ip)))) (And.intro (And.intro (And.intro @res_ptr @n0_ptr) (And.intro @n1_ptr (And.intro @ce_ptr @sz_ptr))) (And.intro (And.intro @ia_ptr @on1_ptr) (And.intro @st_ptr (And.intro @da_ptr @si_ptr))))) (And.intro (And.intro (And.intro (And.intro @res_row @n0_row) (And.intro @n1_row (And.intro @ce_row @sz_row))) (And.intro (And.intro @ia_row @on1_row) (And.intro @st_row (And.intro @da_row @si_row)))) (And.intro (And.intro (And.intro @res_nilp @n0_nilp) (And.intro @n1_nilp (And.intro @ce_nilp @znZ))) (And.intro (And.intro @ia_nilp (And.intro @on1_nilp @st_nilp)) (And.intro @zpo (And.intro @si_nilp @res_fn))))))) (And.intro (And.intro (And.intro (And.intro (And.intro (And.intro @n0_fn @n1_fn) (And.intro @ce_fn (And.intro @sz_fn @ia_fn))) (And.intro (And.intro @on1_fn @st_fn) (And.intro @da_fn (And.intro @si_fn @res_nils)))) (And.intro (And.intro (And.intro @n0_nils @n1_nils) (And.intro @ce_nils (And.intro @sz_nils @zpb))) (And.intro (And.intro @on1_nils @st_nils) (And.intro @da_nils (And.intro @zn9 @zdp))))) (And.intro (And.intro (And.intro (And.intro @n0_niface @n1_niface) (And.intro @ce_niface (And.intro @sz_niface @ia_niface))) (And.intro (And.intro @on1_niface @st_niface) (And.intro @da_niface (And.intro @zj5 @zd4)))) (And.intro (And.intro (And.intro @n0_iface @n1_iface) (And.intro @zmM (And.intro @sz_iface @ia_iface))) (And.intro (And.intro @on1_iface (And.intro @st_iface @da_iface)) (And.intro @si_iface (And.intro @zhw @n0_agg)))))) (And.intro (And.intro (And.intro (And.intro (And.intro @n1_agg @ce_agg) (And.intro @sz_agg (And.intro @ia_agg @on1_agg))) (And.intro (And.intro @st_agg @da_agg) (And.intro @si_agg (And.intro @res_tup @n0_tup)))) (And.intro (And.intro (And.intro @n1_tup @ce_tup) (And.intro @sz_tup (And.intro @ia_tup @zoK))) (And.intro (And.intro @st_tup (And.intro @da_tup @si_tup)) (And.intro @zd3 (And.intro @n0_undef @n1_undef))))) (And.intro (And.intro (And.intro (And.intro @ce_undef @sz_undef) (And.intro @ia_undef (And.intro @zkt @zlW))) (And.intro (And.intro @da_undef @si_undef) (And.intro @res_any (And.intro @n0_any @n1_any)))) (And.intro (And.intro (And.intro @ce_any @sz_any) (And.intro @ia_any (And.intro @on1_any @st_any))) (And.intro (And.intro @da_any (And.intro @si_any @zpa)) (And.intro @ig_blk (And.intro @ig_row @argV_eq)))))))) := (And.intro (And.intro (And.intro (And.intro (And.intro (And.intro (And.intro @wrap_i64 @res_bool) (And.intro @n0_bool (And.intro @n1_bool @zpy))) (And.intro (And.intro @sz_bool @ia_bool) (And.intro @on1_bool (And.intro @zn6 @zpp)))) (And.intro (And.intro (And.intro @si_bool @res_int) (And.intro @n0_int (And.intro @n1_int @ce_int))) (And.intro (And.intro @sz_int @ia_int) (And.intro @on1_int (And.intro @st_int @da_int))))) (And.intro (And.intro (And.intro (And.intro @si_int @res_str) (And.intro @n0_str (And.intro @n1_str @ce_str))) (And.intro (And.intro @sz_str @ia_str) (And.intro @on1_str (And.intro @st_str @da_str)))) (And.intro (And.intro (And.intro @si_str @res_list) (And.intro @n0_list (And.intro @n1_list @ce_list))) (And.intro (And.intro @sz_list (And.intro @zpc @zmk)) (And.intro @st_list (And.intro @da_list @si_list)))))) (And.intro (And.intro (And.intro (And.intro (And.intro @res_ip @n0_ip) (And.intro @n1_ip (And.intro @ce_ip @sz_ip))) (And.intro (And.intro @ia_ip @on1_ip) (And.intro @st_ip (And.intro @da_ip @si_ip)))) (And.intro (And.intro (And.intro @res_ptr @n0_ptr) (And.intro @n1_ptr (And.intro @ce_ptr @sz_ptr))) (And.intro (And.intro @ia_ptr @on1_ptr) (And.intro @st_ptr (And.intro @da_ptr @si_ptr))))) (And.intro (And.intro (And.intro (And.intro @res_row @n0_row) (And.intro @n1_row (And.intro @ce_row @sz_row))) (And.intro (And.intro @ia_row @on1_row) (And.intro @st_row (And.intro @da_row @si_row)))) (And.intro (And.intro (And.intro @res_nilp @n0_nilp) (And.intro @n1_nilp (And.intro @ce_nilp @znZ))) (And.intro (And.intro @ia_nilp (And.intro @on1_nilp @st_nilp)) (And.intro @zpo (And.intro @si_nilp @res_fn))))))) (And.intro (And.intro (And.intro (And.intro (And.intro (And.intro @n0_fn @n1_fn) (And.intro @ce_fn (And.intro @sz_fn @ia_fn))) (And.intro (And.intro @on1_fn @st_fn) (And.intro @da_fn (And.intro @si_fn @res_nils)))) (And.intro (And.intro (And.intro @n0_nils @n1_nils) (And.intro @ce_nils (And.intro @sz_nils @zpb))) (And.intro (And.intro @on1_nils @st_nils) (And.intro @da_nils (And.intro @zn9 @zdp))))) (And.intro (And.intro (And.intro (And.intro @n0_niface @n1_niface) (And.intro @ce_niface (And.intro @sz_niface @ia_niface))) (And.intro (And.intro @on1_niface @st_niface) (And.intro @da_niface (And.intro @zj5 @zd4)))) (And.intro (And.intro (And.intro @n0_iface @n1_iface) (And.intro @zmM (And.intro @sz_iface @ia_iface))) (And.intro (And.intro @on1_iface (And.intro @st_iface @da_iface)) (And.intro @si_iface (And.intro @zhw @n0_agg)))))) (And.intro (And.intro (And.intro (And.intro (And.intro @n1_agg @ce_agg) (And.intro @sz_agg (And.intro @ia_agg @on1_agg))) (And.intro (And.intro @st_agg @da_agg) (And.intro @si_agg (And.intro @res_tup @n0_tup)))) (And.intro (And.intro (And.intro @n1_tup @ce_tup) (And.intro @sz_tup (And.intro @ia_tup @zoK))) (And.intro (And.intro @st_tup (And.intro @da_tup @si_tup)) (And.intro @zd3 (And.intro @n0_undef @n1_undef))))) (And.intro (And.intro (And.intro (And.intro @ce_undef @sz_undef) (And.intro @ia_undef (And.intro @zkt @zlW))) (And.intro (And.intro @da_undef @si_undef) (And.intro @res_any (And.intro @n0_any @n1_any)))) (And.intro (And.intro (And.intro @ce_any @sz_any) (And.intro @ia_any (And.intro @on1_any @st_any))) (And.intro (And.intro @da_any (And.intro @si_any @zpa)) (And.intro @ig_blk (And.intro @ig_row @argV_eq))))))))
theorem wk {A B : Prop} (hB : B) (hA : B → A := by
  intro h
  repeat (first
   | with_reducible refine c_seq ?_
   | with_reducible refine c_reg ?_
   | with_reducible refine zk2 ?_
   | with_reducible refine zox ?_
   | with_reducible refine zfU ?_
   | with_reducible refine zeN ?_
   | with_reducible refine zlj ?_
   | with_reducible refine zeO ?_
   | with_reducible refine zfV ?_
   | with_reducible refine zd7 (by decide) ?_
   | with_reducible refine zpD ?_
   | with_reducible refine c_ret ?_
   | with_reducible refine zpF ?_
   | with_reducible refine zlF ?_
   | with_reducible refine zlB ?_
   | refine zaT rfl (by first | rfl | (simp (config := {maxSteps := 1000000}) (disch := omega) [wantX, ↓zaj, ↓zak, ↓zar, ↓zaq, ↓zap, ↓zas, ↓zaz, ↓zab, ↓zae, ↓zaa, ↓zac, ↓ev_t, ↓ev_c, *, -h]; done) | fail) (by first | (simp (config := {maxSteps := 1000000}) (disch := omega) [↓List.map_cons, ↓List.map_nil, semM, zau, one1, zaw, strV, zaJ, zaf, zag, bnd, zaK, zaI, vb, ↓zaj, ↓zak, ↓zar, ↓zaq, ↓zap, ↓zas, ↓zaz, ↓zab, ↓zae, ↓zaa, ↓zac, ↓ev_t, ↓ev_c, *, -h]; first | rfl | exact ⟨rfl, rfl⟩ | done) | fail) ?_
   | refine zhd (by first | (simp (config := {maxSteps := 1000000}) (disch := omega) [wantX, ↓zaj, ↓zak, ↓zar, ↓zaq, ↓zap, ↓zas, ↓zaz, ↓zab, ↓zae, ↓zaa, ↓zac, ↓ev_t, ↓ev_c, *, -h]; done) | fail) ?_
   | refine zlX (by first | rfl | (simp (config := {maxSteps := 1000000}) (disch := omega) [wantX, ↓zaj, ↓zak, ↓zar, ↓zaq, ↓zap, ↓zas, ↓zaz, ↓zab, ↓zae, ↓zaa, ↓zac, ↓ev_t, ↓ev_c, *, -h]; done) | fail) (by first | (simp (config := {maxSteps := 1000000}) (disch := omega) [↓List.map_cons, ↓List.map_nil, semM, zau, one1, zaw, strV, zaJ, zaf, zag, bnd, zaK, zaI, vb, ↓zaj, ↓zak, ↓zar, ↓zaq, ↓zap, ↓zas, ↓zaz, ↓zab, ↓zae, ↓zaa, ↓zac, ↓ev_t, ↓ev_c, *, -h]; first | rfl | exact ⟨rfl, rfl⟩ | done) | fail) (by first | rfl | (simp (config := {maxSteps := 1000000}) (disch := omega) [avoidV, ↓zaj, ↓zak, ↓zar, ↓zaq, ↓zap, ↓zas, ↓zaz, ↓zab, ↓zae, ↓zaa, ↓zac, ↓ev_t, ↓ev_c, *, -h]; done) | fail) ?_
   | refine zmN (by first | (simp (config := {maxSteps := 1000000}) (disch := omega) [↓zaj, ↓zak, ↓zar, ↓zaq, ↓zap, ↓zas, ↓zaz, ↓zab, ↓zae, ↓zaa, ↓zac, ↓ev_t, ↓ev_c, *, -h]; done) | fail) ?_
   | refine zjK (by first | (simp (config := {maxSteps := 1000000}) (disch := omega) [↓zaj, ↓zak, ↓zar, ↓zaq, ↓zap, ↓zas, ↓zaz, ↓zab, ↓zae, ↓zaa, ↓zac, ↓ev_t, ↓ev_c, *, -h]; done) | fail) ?_
   )
  exact h) : A := hA hB
section
variable {P : Program} {G : Nat → V} {n0 : Nat} {Kp : V → (Nat → Ent) → Prop} {Q : X → Prop} {QC : PEx → X → Prop} {x : X} {t : RT} {d : Option Nat} {slot : Nat} {g : Option (Nat × Bool)} {av : List Nat}
theorem cp (i : Nat) {b : Bool} {f : O} {args : List O} {fid : FuncId} {first cap vs : List V} {e : Ent} {args' : List V} {R : POut → List Ent → Prop} (hc : zaN P G fid args' [e] R)
  (h : ∀ o e', R o [e'] → match o with | .ret v => wpR P G Kp Q t (x.put d v [(i, e'.ren (nameOf [i]))]) | .panic v => Kp v (updL x.st [(i, e'.ren (nameOf [i]))]))
  (hw : wantX x.env g = some true := by
  first | rfl | (simp (config := {maxSteps := 1000000}) (disch := omega) [wantX, ↓zaj, ↓zak, ↓zar, ↓zaq, ↓zap, ↓zas, ↓zaz, ↓zab, ↓zae, ↓zaa, ↓zac, ↓ev_t, ↓ev_c, *]; done) | fail) (hf : f.ev x.env = .fn fid first cap := by
  first | rfl | (simp only [↓zaj, ↓zak, ↓zar, ↓zaq, ↓zap, ↓zas, ↓zaz, ↓zab, ↓zae, ↓zaa, ↓zac, ↓ev_t, ↓ev_c, reduceIte, OfNat.ofNat_ne_ofNat, Nat.reduceEqDiff]; rfl) | fail)
  (hvs : first ++ args.map (O.ev x.env) ++ cap = vs := by
  first | (simp [↓zaj, ↓zak, ↓zar, ↓zaq, ↓zap, ↓zas, ↓zaz, ↓zab, ↓zae, ↓zaa, ↓zac, ↓ev_t, ↓ev_c]; first | rfl | done) | fail) (hst : x.st i = e.ren (nameOf [i]) := by
  first | (simp [Ent.ren, nameOf, V.ren, renS, ↓zaj, ↓zak, ↓zar, ↓zaq, ↓zap, ↓zas, ↓zaz, ↓zab, ↓zae, ↓zaa, ↓zac, ↓ev_t, ↓ev_c]; first | rfl | done) | fail) (hg : e.isGone = false := by rfl) (heon : e.on (fun k => decide (k < 1)) = true := by
  first | rfl | (simp [zcW, zdt, zdu, zds, zcn, zck, zdx, zdr, zci, zcj, zbt, zbL, zfZ, zbK, zdw, zf0, zdv, zcm, zcl, onS]; done) | fail)
  (heq : vs.map (argV x.st) = args'.map (V.ren (nameOf [i])) := by
  first | (simp (config := {maxSteps := 1000000}) (disch := omega) [nameOf, V.ren, renS, ↓List.map_cons, ↓List.map_nil, semM, zau, one1, zaw, strV, zaJ, zaf, zag, bnd, zaK, zaI, vb, ↓zaj, ↓zak, ↓zar, ↓zaq, ↓zap, ↓zas, ↓zaz, ↓zab, ↓zae, ↓zaa, ↓zac, ↓ev_t, ↓ev_c, *]; first | rfl | exact ⟨rfl, rfl⟩ | exact ⟨rfl, rfl, rfl⟩ | exact ⟨rfl, rfl, rfl, rfl⟩ | done) | fail) (hon : args'.all (V.on fun k => decide (k < 1)) = true := by
  first | rfl | (simp [zcW, zdt, zdu, zds, zcn, zck, zdx, zdr, zci, zcj, zbt, zbL, zfZ, zbK, zdw, zf0, zdv, zcm, zcl, onS]; done) | fail)
  (hm : vs.any (fun v => !(v.on fun j => j != i)) = true := by
  first | rfl | (simp [zcW, zdt, zdu, zds, zcn, zck, zdx, zdr, zci, zcj, zbt, zbL, zfZ, zbK, zdw, zf0, zdv, zcm, zcl, onS]; done) | fail) (hb : b = false := by rfl) (ha : avoidV (av.map x.env) [i] = true := by
  first | rfl | (simp [avoidV, ↓zaj, ↓zak, ↓zar, ↓zaq, ↓zap, ↓zas, ↓zaz, ↓zab, ↓zae, ↓zaa, ↓zac, ↓ev_t, ↓ev_c]; done) | fail) : wpR P G Kp Q (.step ⟨d, .call b f args, slot, g, av⟩ t) x :=
 st_callp i hc hw hf hvs hst hg heon heq hon hm hb ha h
theorem c0 {b : Bool} {f : O} {args : List O} {fid : FuncId} {first cap vs : List V} {args' : List V} {R : POut → List Ent → Prop} (hc : zaN P G fid args' [] R)
  (h : ∀ o, R o [] → match o with | .ret v => wpR P G Kp Q t (x.put d v []) | .panic v => Kp v x.st)
  (hw : wantX x.env g = some true := by
  first | rfl | (simp (config := {maxSteps := 1000000}) (disch := omega) [wantX, ↓zaj, ↓zak, ↓zar, ↓zaq, ↓zap, ↓zas, ↓zaz, ↓zab, ↓zae, ↓zaa, ↓zac, ↓ev_t, ↓ev_c, *]; done) | fail) (hf : f.ev x.env = .fn fid first cap := by
  first | rfl | (simp only [↓zaj, ↓zak, ↓zar, ↓zaq, ↓zap, ↓zas, ↓zaz, ↓zab, ↓zae, ↓zaa, ↓zac, ↓ev_t, ↓ev_c, reduceIte, OfNat.ofNat_ne_ofNat, Nat.reduceEqDiff]; rfl) | fail)
  (hvs : first ++ args.map (O.ev x.env) ++ cap = vs := by
  first | (simp [↓zaj, ↓zak, ↓zar, ↓zaq, ↓zap, ↓zas, ↓zaz, ↓zab, ↓zae, ↓zaa, ↓zac, ↓ev_t, ↓ev_c]; first | rfl | done) | fail) (heq : vs.map (argV x.st) = args'.map (V.ren (nameOf [])) := by
  first | (simp (config := {maxSteps := 1000000}) (disch := omega) [nameOf, V.ren, renS, ↓List.map_cons, ↓List.map_nil, semM, zau, one1, zaw, strV, zaJ, zaf, zag, bnd, zaK, zaI, vb, ↓zaj, ↓zak, ↓zar, ↓zaq, ↓zap, ↓zas, ↓zaz, ↓zab, ↓zae, ↓zaa, ↓zac, ↓ev_t, ↓ev_c, *]; first | rfl | exact ⟨rfl, rfl⟩ | exact ⟨rfl, rfl, rfl⟩ | exact ⟨rfl, rfl, rfl, rfl⟩ | done) | fail) (hon : args'.all (V.on fun k => decide (k < 0)) = true := by
  first | rfl | (simp [zcW, zdt, zdu, zds, zcn, zck, zdx, zdr, zci, zcj, zbt, zbL, zfZ, zbK, zdw, zf0, zdv, zcm, zcl, onS]; done) | fail) : wpR P G Kp Q (.step ⟨d, .call b f args, slot, g, av⟩ t) x :=
 ziZ hc hw hf hvs heq hon h
theorem rt {l : List RV} {R : POut → List Ent → Prop} {v : V} {es : List Ent} (h : R (.ret v) es) (hv : outV l x = v := by
  first | (simp (config := {maxSteps := 1000000}) (disch := omega) [zgU, zgT, zgS, zch, zgi, zdc, ↓List.map_cons, ↓List.map_nil, semM, zau, one1, zaw, strV, zaJ, zaf, zag, bnd, zaK, zaI, vb, ↓zaj, ↓zak, ↓zar, ↓zaq, ↓zap, ↓zas, ↓zaz, ↓zab, ↓zae, ↓zaa, ↓zac, ↓ev_t, ↓ev_c, *]; first | rfl | done) | fail) (he : lentOf n0 x.st = es := by
  first | (simp (config := {maxSteps := 1000000}) (disch := omega) [zjC, zjB, zjA, ↓zaj, ↓zak, ↓zar, ↓zaq, ↓zap, ↓zas, ↓zaz, ↓zab, ↓zae, ↓zaa, ↓zac, ↓ev_t, ↓ev_c, *]; first | rfl | done) | fail) (hd : zev l x = true := by
  first | (simp (config := {maxSteps := 1000000}) (disch := omega) [zfd, zfc, zfb, zcU, zgi, zdc, ↓List.map_cons, ↓List.map_nil, semM, zau, one1, zaw, strV, zaJ, zaf, zag, bnd, zaK, zaI, vb, ↓zaj, ↓zak, ↓zar, ↓zaq, ↓zap, ↓zas, ↓zaz, ↓zab, ↓zae, ↓zaa, ↓zac, ↓ev_t, ↓ev_c, *]; done) | fail) (hl : es.all (Ent.on fun k => decide (k < n0)) = true := by
  first | rfl | (simp (config := {maxSteps := 1000000}) (disch := omega) [zcW, zdt, zdu, zds, zcn, zck, zdx, zdr, zci, zcj, zbt, zbL, zfZ, zbK, zdw, zf0, zdv, zcm, zcl, ↓zaj, ↓zak, ↓zar, ↓zaq, ↓zap, ↓zas, ↓zaz, ↓zab, ↓zae, ↓zaa, ↓zac, ↓ev_t, ↓ev_c, *]; done) | fail) : retK n0 l R .ret x := q_ret hv he hd hl h
theorem nm {l : List RV} {R : POut → List Ent → Prop} {v : V} {es : List Ent} (h : R (.ret v) es) (hv : outV l x = v := by
  first | (simp (config := {maxSteps := 1000000}) (disch := omega) [zgU, zgT, zgS, zch, zgi, zdc, ↓List.map_cons, ↓List.map_nil, semM, zau, one1, zaw, strV, zaJ, zaf, zag, bnd, zaK, zaI, vb, ↓zaj, ↓zak, ↓zar, ↓zaq, ↓zap, ↓zas, ↓zaz, ↓zab, ↓zae, ↓zaa, ↓zac, ↓ev_t, ↓ev_c, *]; first | rfl | done) | fail) (he : lentOf n0 x.st = es := by
  first | (simp (config := {maxSteps := 1000000}) (disch := omega) [zjC, zjB, zjA, ↓zaj, ↓zak, ↓zar, ↓zaq, ↓zap, ↓zas, ↓zaz, ↓zab, ↓zae, ↓zaa, ↓zac, ↓ev_t, ↓ev_c, *]; first | rfl | done) | fail) (hd : zev l x = true := by
  first | (simp (config := {maxSteps := 1000000}) (disch := omega) [zfd, zfc, zfb, zcU, zgi, zdc, ↓List.map_cons, ↓List.map_nil, semM, zau, one1, zaw, strV, zaJ, zaf, zag, bnd, zaK, zaI, vb, ↓zaj, ↓zak, ↓zar, ↓zaq, ↓zap, ↓zas, ↓zaz, ↓zab, ↓zae, ↓zaa, ↓zac, ↓ev_t, ↓ev_c, *]; done) | fail) (hl : es.all (Ent.on fun k => decide (k < n0)) = true := by
  first | rfl | (simp (config := {maxSteps := 1000000}) (disch := omega) [zcW, zdt, zdu, zds, zcn, zck, zdx, zdr, zci, zcj, zbt, zbL, zfZ, zbK, zdw, zf0, zdv, zcm, zcl, ↓zaj, ↓zak, ↓zar, ↓zaq, ↓zap, ↓zas, ↓zaz, ↓zab, ↓zae, ↓zaa, ↓zac, ↓ev_t, ↓ev_c, *]; done) | fail) : retK n0 l R .normal x := q_normal hv he hd hl h
theorem pq {R : POut → List Ent → Prop} {v : V} {st : Nat → Ent} {es : List Ent} (h : R (.panic v) es) (he : lentOf n0 st = es := by
  first | (simp (config := {maxSteps := 1000000}) (disch := omega) [zjC, zjB, zjA, ↓zlR, ↓zlQ, ↓updL_two, ↓zaj, ↓zak, ↓zar, ↓zaq, ↓zap, ↓zas, ↓zaz, ↓zab, ↓zae, ↓zaa, ↓zac, ↓ev_t, ↓ev_c, *]; first | rfl | done) | fail) (hl : es.all (Ent.on fun k => decide (k < n0)) = true := by
  first | rfl | (simp (config := {maxSteps := 1000000}) (disch := omega) [zcW, zdt, zdu, zds, zcn, zck, zdx, zdr, zci, zcj, zbt, zbL, zfZ, zbK, zdw, zf0, zdv, zcm, zcl, ↓zlR, ↓zlQ, ↓zaj, ↓zak, ↓zar, ↓zaq, ↓zap, ↓zas, ↓zaz, ↓zab, ↓zae, ↓zaa, ↓zac, ↓ev_t, ↓ev_c, *]; done) | fail) : panK n0 R v st := q_panic he hl h
theorem vp {y : O} {T : TypeId} {v : V} (h : Kp (.iface T v) x.st) (hw : wantX x.env g = some true := by
  first | rfl | (simp (config := {maxSteps := 1000000}) (disch := omega) [wantX, ↓zaj, ↓zak, ↓zar, ↓zaq, ↓zap, ↓zas, ↓zaz, ↓zab, ↓zae, ↓zaa, ↓zac, ↓ev_t, ↓ev_c, *]; done) | fail) (hv : zbc (res x.st (y.ev x.env)) = .iface T v := by
  first | (simp (config := {maxSteps := 1000000}) (disch := omega) [↓List.map_cons, ↓List.map_nil, semM, zau, one1, zaw, strV, zaJ, zaf, zag, bnd, zaK, zaI, vb, ↓zaj, ↓zak, ↓zar, ↓zaq, ↓zap, ↓zas, ↓zaz, ↓zab, ↓zae, ↓zaa, ↓zac, ↓ev_t, ↓ev_c, *]; first | rfl | exact ⟨rfl, rfl⟩ | done) | fail) : wpR P G Kp Q (.step ⟨d, .pan y, slot, g, av⟩ t) x := st_pan hw hv h
end
theorem lo {A : Prop} (h : A := by
  exact ziA (by rfl) (by first | (simp (config := {maxSteps := 1000000}) (disch := omega) [onL, onS, zcW, zdt, zdu, zds, zcn, zck, zdx, zdr, zci, zcj, zbt, zbL, zfZ, zbK, zdw, zf0, zdv, zcm, zcl, ↓zaj, ↓zak, ↓zar, ↓zaq, ↓zap, ↓zas, ↓zaz, ↓zab, ↓zae, ↓zaa, ↓zac, ↓ev_t, ↓ev_c, *]; done) | fail) (by first | (simp (config := {maxSteps := 1000000}) (disch := omega) [onE, onS, zcW, zdt, zdu, zds, zcn, zck, zdx, zdr, zci, zcj, zbt, zbL, zfZ, zbK, zdw, zf0, zdv, zcm, zcl, ↓zaj, ↓zak, ↓zar, ↓zaq, ↓zap, ↓zas, ↓zaz, ↓zab, ↓zae, ↓zaa, ↓zac, ↓ev_t, ↓ev_c, *]; done) | fail)) : A := h
theorem le {A : Prop} (h : A := by
  rw [zbi]; first | (simp (config := {maxSteps := 1000000}) (disch := omega) [envL, stL, ↓zaj, ↓zak, ↓zar, ↓zaq, ↓zap, ↓zas, ↓zaz, ↓zab, ↓zae, ↓zaa, ↓zac, ↓ev_t, ↓ev_c, *]; first | rfl | done) | fail) : A := h
end Vm
